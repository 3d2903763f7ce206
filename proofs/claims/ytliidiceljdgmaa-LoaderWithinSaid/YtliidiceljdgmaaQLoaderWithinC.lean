/-
  LoaderWithin: part 3 of the proof.
-/
import Derived.Below
import Derived.BigQuiet
import Derived.Calls
import Derived.Deep.AppendLies
import Derived.Deep.DrawnRows
import Derived.Deep.Draws
import Derived.Deep.QuietTactic
import Derived.Deep.RegionHeld3
import Derived.IntWalk
import Derived.KernelRfl
import Derived.Laws.Bits64
import Derived.Laws.BitsAllLaws
import Derived.Laws.BytesArg
import Derived.Laws.Concat
import Derived.Laws.EntriesVeiled
import Derived.Laws.IdiomStrings
import Derived.Laws.OwnMore
import Derived.Laws.Rows
import Derived.Laws.Strings
import Derived.Laws.Strings2
import Derived.Laws.StructEq
import Derived.Lib.Hide
import Derived.Outline
import Derived.OwnWalk
import Derived.Test.YtliidiceljdgmaaChecked
import Derived.Test.YtliidiceljdgmaaProg
import Derived.Test.YtliidiceljdgmaaQLoaderWithinB
import Derived.WalkKit
import Derived.WalkLawsBesides
import Derived.WalkSpells
set_option linter.unusedSimpArgs false
set_option linter.unusedVariables false
set_option linter.unusedSectionVars false
namespace Go.Proofs.Ytliidiceljdgmaa
open Go.RowKit
open Sy
set_option maxRecDepth 100000
theorem ar_names : namesOk Try.prog = true:=by kernel_rfl
def z64 (n : Nat) : List Value:=List.replicate n (.int .u64 0)
def mpH (m n : Nat) : Sy.Heap:=[(66,⟨false,none,[.int .i64 (m : Nat),.slice (some ⟨65,0,none⟩) n (big + 65)],none⟩),(65,⟨true,some (65,1),z64 n,none⟩)]
def mcI (x y : Int) (m n : Nat) (k : Int) : Sf:=⟨68,[(0,.pointer (some ⟨66,0,none⟩)),(1,.int .i64 x),(2,.int .i64 y),(7,.int .i64 0),(8,.int .i64 k)],mpH m n,[(65,n)]⟩
def selOne : SelC:=fun f _ _ => bif Nat.beq f 102 then some (Con.pure [.int .u64 0] (.int .i64 0),[],True) else none
theorem ar_new (p : Int) : evF Try.prog noBase noLoop 100 40 36 [Value.int .i64 p] ⟨64,[],[],0,[(0,false),(1,false),(2,false),(3,false),(4,false),(5,false)],0,True⟩ = some (Value.tuple { toList:=[Value.pointer (some ⟨67,0,none⟩),.int .i64 0] },{ n:=68,h:=[(67,⟨true,none,[Value.pointer (some ⟨66,0,none⟩),.slice (some ⟨64,0,none⟩) (IntKind.i64.wrap (p * (256:Int))).toNat 9223372036854775872],none⟩),(66,⟨true,none,[Value.int .i64 (IntKind.i64.wrap ((IntKind.i64.wrap (p * (256:Int))).tdiv (16:Int))),.slice (some ⟨65,0,none⟩) (IntKind.i64.wrap ((IntKind.i64.wrap (IntKind.i64.wrap (IntKind.i64.wrap ((IntKind.i64.wrap (p * (256:Int))).tdiv (16:Int))+(64:Int)) - (1:Int))).tdiv (64:Int))).toNat 9223372036854775873],none⟩),(65,⟨true,some (65,1),repl (IntKind.i64.wrap ((IntKind.i64.wrap (IntKind.i64.wrap (IntKind.i64.wrap ((IntKind.i64.wrap (p * (256:Int))).tdiv (16:Int))+(64:Int)) - (1:Int))).tdiv (64:Int))).toNat [Value.int .u64 0],none⟩),(64,⟨true,some (64,1),repl (IntKind.i64.wrap (p * (256:Int))).toNat [Value.int .u8 0],none⟩)],lo:=[(65,(IntKind.i64.wrap ((IntKind.i64.wrap (IntKind.i64.wrap (IntKind.i64.wrap ((IntKind.i64.wrap (p * (256:Int))).tdiv (16:Int))+(64:Int)) - (1:Int))).tdiv (64:Int))).toNat),(64,(IntKind.i64.wrap (p * (256:Int))).toNat)],esc:=0,T:=[],k:=6,O:=bif decide ((0:Int) ≤ IntKind.i64.wrap ((IntKind.i64.wrap (IntKind.i64.wrap (IntKind.i64.wrap ((IntKind.i64.wrap (p * (256:Int))).tdiv (16:Int))+(64:Int)) - (1:Int))).tdiv (64:Int))) && decide (IntKind.i64.wrap ((IntKind.i64.wrap (IntKind.i64.wrap (IntKind.i64.wrap ((IntKind.i64.wrap (p * (256:Int))).tdiv (16:Int))+(64:Int)) - (1:Int))).tdiv (64:Int)) ≤ IntKind.i64.wrap ((IntKind.i64.wrap (IntKind.i64.wrap (IntKind.i64.wrap ((IntKind.i64.wrap (p * (256:Int))).tdiv (16:Int))+(64:Int)) - (1:Int))).tdiv (64:Int))) && decide ((8:Int) * IntKind.i64.wrap ((IntKind.i64.wrap (IntKind.i64.wrap (IntKind.i64.wrap ((IntKind.i64.wrap (p * (256:Int))).tdiv (16:Int))+(64:Int)) - (1:Int))).tdiv (64:Int)) ≤ (140737488355328:Int)) && decide (IntKind.i64.wrap ((IntKind.i64.wrap (IntKind.i64.wrap (IntKind.i64.wrap ((IntKind.i64.wrap (p * (256:Int))).tdiv (16:Int))+(64:Int)) - (1:Int))).tdiv (64:Int)) < (9223372036854775808:Int)) then ((((bif decide ((0:Int) ≤ IntKind.i64.wrap (p * (256:Int))) && decide (IntKind.i64.wrap (p * (256:Int)) ≤ IntKind.i64.wrap (p * (256:Int))) && decide ((1:Int) * IntKind.i64.wrap (p * (256:Int)) ≤ (140737488355328:Int)) && decide (IntKind.i64.wrap (p * (256:Int)) < (9223372036854775808:Int)) then (True∧decide (p < (16:Int)) = false)∧decide (p > (1024:Int)) = false else False)∧decide (IntKind.i64.wrap ((IntKind.i64.wrap (p * (256:Int))).tdiv (16:Int)) < (0:Int)) = false)∧decide (IntKind.i64.wrap ((IntKind.i64.wrap (p * (256:Int))).tdiv (16:Int)) < (0:Int)) = false)∧decide (IntKind.i64.wrap ((IntKind.i64.wrap (p * (256:Int))).tdiv (16:Int)) < (0:Int)) = false)∧decide (IntKind.i64.wrap ((IntKind.i64.wrap (p * (256:Int))).tdiv (16:Int)) > (1048576:Int)) = false else False : St }):=by kernel_rfl
theorem cl_a (x : Int) (y : Int) (m : Nat) (n : Nat) (k : Int) : evC Try.prog (evF Try.prog (baseC 3 selOne) noLoop 100 5) (noLoop 83) 56 100 (loopOf Try.prog 83 0) (Sf.frT 56 (mcI x y m n k) [(0,true),(1,false)]) = some (Exit.normal,{ e:=[[Value.pointer (some ⟨66,0,none⟩),.int .i64 x,.int .i64 y,unk,unk,unk,unk,.int .i64 0,.int .i64 (IntKind.i64.wrap (k + (1 : Int))),.int .u64 (IntKind.u64.wrap (Int.fdiv (18446744073709551615 : Int) ((2 : Int) ^ min (IntKind.i64.wrap ((64 : Int) - IntKind.i64.wrap ((if (64 : Int) < IntKind.i64.wrap (y - IntKind.i64.wrap (k * (64 : Int))) then (64 : Int) else IntKind.i64.wrap (y - IntKind.i64.wrap (k * (64 : Int)))) - if (0 : Int) > IntKind.i64.wrap (x - IntKind.i64.wrap (k * (64 : Int))) then (0 : Int) else IntKind.i64.wrap (x - IntKind.i64.wrap (k * (64 : Int)))))).toNat 64) * (2 : Int) ^ min (if (0 : Int) > IntKind.i64.wrap (x - IntKind.i64.wrap (k * (64 : Int))) then (0 : Int) else IntKind.i64.wrap (x - IntKind.i64.wrap (k * (64 : Int)))).toNat 64)),unk,unk,unk,unk,unk,unk],[unk,unk,unk,unk,unk,unk,.int .i64 k,.int .i64 (IntKind.i64.wrap (k * (64 : Int))),.int .i64 y,.bool (decide (IntKind.i64.wrap (k * (64 : Int)) < y)),.int .i64 k,.int .i64 (IntKind.i64.wrap (k + (1 : Int))),.pointer (some ⟨66,0,none⟩),.int .i64 k,.int .i64 x,.int .i64 y],[Value.int .u64 (IntKind.u64.wrap (Int.fdiv (18446744073709551615 : Int) ((2 : Int) ^ min (IntKind.i64.wrap ((64 : Int) - IntKind.i64.wrap ((if (64 : Int) < IntKind.i64.wrap (y - IntKind.i64.wrap (k * (64 : Int))) then (64 : Int) else IntKind.i64.wrap (y - IntKind.i64.wrap (k * (64 : Int)))) - if (0 : Int) > IntKind.i64.wrap (x - IntKind.i64.wrap (k * (64 : Int))) then (0 : Int) else IntKind.i64.wrap (x - IntKind.i64.wrap (k * (64 : Int)))))).toNat 64) * (2 : Int) ^ min (if (0 : Int) > IntKind.i64.wrap (x - IntKind.i64.wrap (k * (64 : Int))) then (0 : Int) else IntKind.i64.wrap (x - IntKind.i64.wrap (k * (64 : Int)))).toNat 64)),.int .i64 0,.pointer (some ⟨66,0,none⟩),.pointer (some ⟨66,0,none⟩),.pointer (some { block:=66,off:=1 }),.slice (some ⟨65,0,none⟩) n 9223372036854775873,.int .i64 k,.pointer (some { block:=65,off:=0 + k.toNat * 1 }),.int .u64 (intOf' (getD' undef (z64 n) (0 + k.toNat * 1))),.int .u64 (IntKind.u64.wrap (Int.fdiv (18446744073709551615 : Int) ((2 : Int) ^ min (IntKind.i64.wrap ((64 : Int) - IntKind.i64.wrap ((if (64 : Int) < IntKind.i64.wrap (y - IntKind.i64.wrap (k * (64 : Int))) then (64 : Int) else IntKind.i64.wrap (y - IntKind.i64.wrap (k * (64 : Int)))) - if (0 : Int) > IntKind.i64.wrap (x - IntKind.i64.wrap (k * (64 : Int))) then (0 : Int) else IntKind.i64.wrap (x - IntKind.i64.wrap (k * (64 : Int)))))).toNat 64) * (2 : Int) ^ min (if (0 : Int) > IntKind.i64.wrap (x - IntKind.i64.wrap (k * (64 : Int))) then (0 : Int) else IntKind.i64.wrap (x - IntKind.i64.wrap (k * (64 : Int)))).toNat 64)),.int .u64 (bits BinOp.and IntKind.u64 (intOf' (getD' undef (z64 n) (0 + k.toNat * 1))) (IntKind.u64.wrap (Int.fdiv (18446744073709551615 : Int) ((2 : Int) ^ min (IntKind.i64.wrap ((64 : Int) - IntKind.i64.wrap ((if (64 : Int) < IntKind.i64.wrap (y - IntKind.i64.wrap (k * (64 : Int))) then (64 : Int) else IntKind.i64.wrap (y - IntKind.i64.wrap (k * (64 : Int)))) - if (0 : Int) > IntKind.i64.wrap (x - IntKind.i64.wrap (k * (64 : Int))) then (0 : Int) else IntKind.i64.wrap (x - IntKind.i64.wrap (k * (64 : Int)))))).toNat 64) * (2 : Int) ^ min (if (0 : Int) > IntKind.i64.wrap (x - IntKind.i64.wrap (k * (64 : Int))) then (0 : Int) else IntKind.i64.wrap (x - IntKind.i64.wrap (k * (64 : Int)))).toNat 64))),.int .i64 0,.int .i64 0,.pointer (some ⟨66,0,none⟩),.pointer (some ⟨66,0,none⟩),.pointer (some { block:=66,off:=1 })],[Value.slice (some ⟨65,0,none⟩) n 9223372036854775873,.int .i64 k,.pointer (some { block:=65,off:=0 + k.toNat * 1 }),.int .u64 (intOf' (getD' undef (z64 n) (0 + k.toNat * 1))),.int .u64 (IntKind.u64.wrap (Int.fdiv (18446744073709551615 : Int) ((2 : Int) ^ min (IntKind.i64.wrap ((64 : Int) - IntKind.i64.wrap ((if (64 : Int) < IntKind.i64.wrap (y - IntKind.i64.wrap (k * (64 : Int))) then (64 : Int) else IntKind.i64.wrap (y - IntKind.i64.wrap (k * (64 : Int)))) - if (0 : Int) > IntKind.i64.wrap (x - IntKind.i64.wrap (k * (64 : Int))) then (0 : Int) else IntKind.i64.wrap (x - IntKind.i64.wrap (k * (64 : Int)))))).toNat 64) * (2 : Int) ^ min (if (0 : Int) > IntKind.i64.wrap (x - IntKind.i64.wrap (k * (64 : Int))) then (0 : Int) else IntKind.i64.wrap (x - IntKind.i64.wrap (k * (64 : Int)))).toNat 64)),.int .u64 (bits BinOp.andNot IntKind.u64 (intOf' (getD' undef (z64 n) (0 + k.toNat * 1))) (IntKind.u64.wrap (Int.fdiv (18446744073709551615 : Int) ((2 : Int) ^ min (IntKind.i64.wrap ((64 : Int) - IntKind.i64.wrap ((if (64 : Int) < IntKind.i64.wrap (y - IntKind.i64.wrap (k * (64 : Int))) then (64 : Int) else IntKind.i64.wrap (y - IntKind.i64.wrap (k * (64 : Int)))) - if (0 : Int) > IntKind.i64.wrap (x - IntKind.i64.wrap (k * (64 : Int))) then (0 : Int) else IntKind.i64.wrap (x - IntKind.i64.wrap (k * (64 : Int)))))).toNat 64) * (2 : Int) ^ min (if (0 : Int) > IntKind.i64.wrap (x - IntKind.i64.wrap (k * (64 : Int))) then (0 : Int) else IntKind.i64.wrap (x - IntKind.i64.wrap (k * (64 : Int)))).toNat 64))),.pointer (some { block:=65,off:=0 + k.toNat * 1 }),unk,unk,unk,unk,unk,unk,unk,unk,unk]],s:={ n:=68,h:=[(66,⟨false,none,[Value.int .i64 (↑m),.slice (some ⟨65,0,none⟩) n 9223372036854775873],none⟩),(65,⟨true,some (65,1),setAt (0 + k.toNat * 1) [Value.int .u64 (bits BinOp.andNot IntKind.u64 (intOf' (getD' undef (z64 n) (0 + k.toNat * 1))) (IntKind.u64.wrap (Int.fdiv (18446744073709551615 : Int) ((2 : Int) ^ min (IntKind.i64.wrap ((64 : Int) - IntKind.i64.wrap ((if (64 : Int) < IntKind.i64.wrap (y - IntKind.i64.wrap (k * (64 : Int))) then (64 : Int) else IntKind.i64.wrap (y - IntKind.i64.wrap (k * (64 : Int)))) - if (0 : Int) > IntKind.i64.wrap (x - IntKind.i64.wrap (k * (64 : Int))) then (0 : Int) else IntKind.i64.wrap (x - IntKind.i64.wrap (k * (64 : Int)))))).toNat 64) * (2 : Int) ^ min (if (0 : Int) > IntKind.i64.wrap (x - IntKind.i64.wrap (k * (64 : Int))) then (0 : Int) else IntKind.i64.wrap (x - IntKind.i64.wrap (k * (64 : Int)))).toNat 64)))] (z64 n),none⟩)],lo:=[(65,n)],esc:=0,T:=[],k:=2,O:=bif hasN (0 + k.toNat * 1 + 1) (z64 n) && true && true then bif decide ((0 : Int) ≤ k) && decide (k < (↑n : Int)) then bif hasN (0 + k.toNat * 1 + 1) (z64 n) && isLikeL [Value.int .u64 0] (z64 n) (0 + k.toNat * 1) then bif decide ((0 : Int) ≤ k) && decide (k < (↑n : Int)) then (bif hasN (0 + k.toNat * 1 + 1) (z64 n) && isLikeL [Value.int .u64 0] (z64 n) (0 + k.toNat * 1) then bif decide ((0 : Int) ≤ k) && decide (k < (↑n : Int)) then bif decide ((0 : Int) ≤ if (0 : Int) > IntKind.i64.wrap (x - IntKind.i64.wrap (k * (64 : Int))) then (0 : Int) else IntKind.i64.wrap (x - IntKind.i64.wrap (k * (64 : Int)))) then bif decide ((0 : Int) ≤ IntKind.i64.wrap ((64 : Int) - IntKind.i64.wrap ((if (64 : Int) < IntKind.i64.wrap (y - IntKind.i64.wrap (k * (64 : Int))) then (64 : Int) else IntKind.i64.wrap (y - IntKind.i64.wrap (k * (64 : Int)))) - if (0 : Int) > IntKind.i64.wrap (x - IntKind.i64.wrap (k * (64 : Int))) then (0 : Int) else IntKind.i64.wrap (x - IntKind.i64.wrap (k * (64 : Int)))))) then (True ∧ decide (IntKind.i64.wrap (k * (64 : Int)) < y) = true) ∧ decide ((if (0 : Int) > IntKind.i64.wrap (x - IntKind.i64.wrap (k * (64 : Int))) then (0 : Int) else IntKind.i64.wrap (x - IntKind.i64.wrap (k * (64 : Int)))) ≥ if (64 : Int) < IntKind.i64.wrap (y - IntKind.i64.wrap (k * (64 : Int))) then (64 : Int) else IntKind.i64.wrap (y - IntKind.i64.wrap (k * (64 : Int)))) = false else False else False else False else False) ∧ True ∧ (Value.int .u64 (bits BinOp.and IntKind.u64 (intOf' (getD' undef (z64 n) (0 + k.toNat * 1))) (IntKind.u64.wrap (Int.fdiv (18446744073709551615 : Int) ((2 : Int) ^ min (IntKind.i64.wrap ((64 : Int) - IntKind.i64.wrap ((if (64 : Int) < IntKind.i64.wrap (y - IntKind.i64.wrap (k * (64 : Int))) then (64 : Int) else IntKind.i64.wrap (y - IntKind.i64.wrap (k * (64 : Int)))) - if (0 : Int) > IntKind.i64.wrap (x - IntKind.i64.wrap (k * (64 : Int))) then (0 : Int) else IntKind.i64.wrap (x - IntKind.i64.wrap (k * (64 : Int)))))).toNat 64) * (2 : Int) ^ min (if (0 : Int) > IntKind.i64.wrap (x - IntKind.i64.wrap (k * (64 : Int))) then (0 : Int) else IntKind.i64.wrap (x - IntKind.i64.wrap (k * (64 : Int)))).toNat 64))) = Value.int .u64 0 ∧ True) ∧ True ∧ True else False else False else False else False : St } : Fr }):=by kernel_rfl
theorem cl_e (x : Int) (y : Int) (m : Nat) (n : Nat) (k : Int) : evC Try.prog (evF Try.prog (baseC 3 selOne) noLoop 100 5) (noLoop 83) 56 100 (loopOf Try.prog 83 0) (Sf.frT 56 (mcI x y m n k) [(0,false)]) = some (Exit.exit 0,{ e:=[[Value.pointer (some ⟨66,0,none⟩),.int .i64 x,.int .i64 y,unk,unk,unk,unk,.int .i64 0,.int .i64 k,unk,unk,unk,unk,unk,unk,unk],[unk,unk,unk,unk,unk,unk,.int .i64 k,.int .i64 (IntKind.i64.wrap (k * (64 : Int))),.int .i64 y,.bool (decide (IntKind.i64.wrap (k * (64 : Int)) < y)),unk,unk,unk,unk,unk,unk],[unk,unk,unk,unk,unk,unk,unk,unk,unk,unk,unk,unk,unk,unk,unk,unk],[unk,unk,unk,unk,unk,unk,unk,unk,unk,unk,unk,unk,unk,unk,unk,unk]],s:={ n:=68,h:=[(66,⟨false,none,[Value.int .i64 (↑m),.slice (some ⟨65,0,none⟩) n 9223372036854775873],none⟩),(65,⟨true,some (65,1),z64 n,none⟩)],lo:=[(65,n)],esc:=0,T:=[],k:=1,O:=True ∧ decide (IntKind.i64.wrap (k * (64 : Int)) < y) = false : St } : Fr }):=by kernel_rfl
end Go.Proofs.Ytliidiceljdgmaa
namespace Go.Proofs.Ytliidiceljdgmaa
open Go.RowKit
open Sy
set_option maxRecDepth 100000
theorem repl_at (v : Value) : ∀ (n i : Nat),i < n → getD' undef (List.replicate n v) i = v
 | 0,_,h => by omega
 | n + 1,0,_ => rfl
 | n + 1,i + 1,h => repl_at v n i (by omega)
theorem repl_set (v : Value) : ∀ (n i : Nat),i < n → setAt i [v] (List.replicate n v) = List.replicate n v
 | 0,_,h => by omega
 | 0 + 1,0,_ => rfl
 | n + 1 + 1,0,_ => by simp only [rr, tt, List.replicate_succ,setAt]
 | n + 1,i + 1,h => by
  have:=repl_set v n i (by omega)
  simp only [rr, tt, List.replicate_succ,setAt,this]
theorem z64_at (n i : Nat) (h : i < n) : intOf' (getD' undef (z64 n) i) = 0:=by
 unfold z64; rw [repl_at _ n i h]; rfl
theorem z64_set (n i : Nat) (h : i < n) : setAt i [.int .u64 0] (z64 n) = z64 n:=repl_set _ n i h
theorem z64_has (n k : Nat) : hasN k (z64 n) = decide (k ≤ n):=by
 rw [Bool.eq_iff_iff,hasN_iff]; simp [z64]
theorem z64_like (n i : Nat) (h : i < n) : isLikeL [.int .u64 0] (z64 n) i = true:=by
 simp only [rr, tt, isLikeL,Bool.and_true]
 unfold z64
 rw [repl_at _ n i h]; rfl
theorem z64_flat (n : Nat) : ∀ v ∈ z64 n,flat0 v = true:=fun v hv => by rw [(List.mem_replicate.1 hv).2]; rfl
theorem and0 (w : Int) : bits .and .u64 (0 : Int) w = 0:=by
 show IntKind.u64.wrap ((BitVec.ofInt 64 0 &&& BitVec.ofInt 64 w).toNat : Int) = 0
 simp
 rfl
theorem andn0 (w : Int) : bits .andNot .u64 (0 : Int) w = 0:=by
 show IntKind.u64.wrap ((BitVec.ofInt 64 0 &&& ~~~ BitVec.ofInt 64 w).toNat : Int) = 0
 simp
 rfl
theorem one_run : obs (evF Try.prog noBase noLoop 100 5 102 [.int .u64 0] (stT [])) = some (.int .i64 0,True):=by kernel_rfl
theorem one_con : ConOk Try.prog 102 3 (Con.pure [.int .u64 0] (.int .i64 0)) :=
 pure_run (d:=1) (run_ok (L:=100) ar_names (noBase_ok _) (noLoop_ok _) 5) one_run trivial rfl rfl
theorem selOne_ok : SelOk Try.prog 3 selOne:=by
 intro f args s c ρ q h hq
 unfold selOne at h
 obtain ⟨h2,h3⟩:=bif_some h
 have h2:=eB h2
 subst h2
 cases h3
 exact one_con
def mcF (n : Nat) : Sf:=⟨68,[(7,.int .i64 0)],[(65,⟨true,some (65,1),z64 n,none⟩)],[(65,n)]⟩
theorem mcI_wf (x y : Int) (m n : Nat) (k : Int) : (mcI x y m n k).Wf :=
 ⟨by show 64 ≤ 68; omega,⟨⟨rfl,rfl,fun v hv => okV_bnd 3 v (List.all_eq_true.1 (show ([.int .i64 (m : Nat),.slice (some ⟨65,0,none⟩) n (big + 65)] : List Value).all (okV (fun l => Nat.blt l 68) 3) = true from by kernel_rfl) v hv)⟩,⟨rfl,rfl,flat_bnd (z64_flat n)⟩,trivial⟩,rfl,fun x hx => okV_bnd 3 _ (by
  simp only [rr, tt, mcI,List.mem_cons,List.not_mem_nil,or_false] at hx
  rcases hx with rfl | rfl | rfl | rfl | rfl <;> rfl)⟩
theorem mcF_ok (n : Nat) : (mcF n).Ok (keeps 68 68 id (fun l => Nat.blt l 68)) :=
 ⟨⟨⟨rfl,rfl,flat_bnd (z64_flat n)⟩,trivial⟩,rfl,fun x hx => okV_bnd 3 _ (by
  simp only [rr, tt, mcF,List.mem_cons,List.not_mem_nil,or_false] at hx
  rcases hx with rfl; rfl)⟩
def InMap (x y : Int) (m n : Nat) : Prop:=0 ≤ x ∧ x < y ∧ y ≤ m ∧ m ≤ 64 * n ∧ n ≤ 100000
theorem mc_loop (x y : Int) (m n : Nat) (h : InMap x y m n) : ∀ k : { k : Nat // x < 64 * k + 64 ∧ k ≤ n },LoopOk Try.prog 56 (loopOf Try.prog 83 0) ((mcI x y m n (k.1 : Int)).fr 56) (.exit 0) ((mcF n).fr 56):=by
 obtain ⟨h1,h2,h3,h4,h5⟩:=h
 refine loop_ok (L:=100) (run_ok (L:=100) ar_names (baseC_ok selOne_ok) (noLoop_ok _) 5) (noLoop_any _ _ 83) (fun _ h => h) (X:={ k : Nat // x < 64 * k + 64 ∧ k ≤ n }) (fun k => mcI x y m n (k.1 : Int)) (fun _ => mcF n) (fun _ => .exit 0) (fun k => 100000 - k.1) (fun k => mcI_wf x y m n _) ?_
 rintro ⟨k,hk,hkn⟩
 by_cases hc : (k : Int) * 64 < y
 ·have hr:=cl_a x y m n (k : Int)
  have w1 : IntKind.i64.wrap ((k : Int) * (64 : Int)) = (k : Int) * 64:=wrap_i64 (by omega) (by omega)
  have w2 : IntKind.i64.wrap ((k : Int) + (1 : Int)) = ((k + 1 : Nat) : Int):=cast_succ_i64 k (by omega)
  have w3 : IntKind.i64.wrap (y - (k : Int) * 64) = y - (k : Int) * 64:=wrap_i64 (by omega) (by omega)
  have w4 : IntKind.i64.wrap (x - (k : Int) * 64) = x - (k : Int) * 64:=wrap_i64 (by omega) (by omega)
  obtain ⟨hi,hH⟩ : ∃ hi,(if (64 : Int) < y - (k : Int) * 64 then (64 : Int) else y - (k : Int) * 64) = hi:=⟨_,rfl⟩
  obtain ⟨lo,hL⟩ : ∃ lo,(if (0 : Int) > x - (k : Int) * 64 then (0 : Int) else x - (k : Int) * 64) = lo:=⟨_,rfl⟩
  have hb : 0 ≤ lo ∧ lo < hi ∧ hi ≤ 64:=by
   rw [← hH,← hL]
   split <;> split <;> omega
  have w5 : IntKind.i64.wrap (hi - lo) = hi - lo:=wrap_i64 (by omega) (by omega)
  have w6 : IntKind.i64.wrap ((64 : Int) - (hi - lo)) = 64 - (hi - lo):=wrap_i64 (by omega) (by omega)
  simp (disch:=omega) only [rr, tt, w1,w2,w3,w4,hH,hL,w5,w6,Int.toNat_natCast,Nat.zero_add,Nat.mul_one,z64_at,and0,andn0,z64_set] at hr
  refine ⟨_,.normal,_,3,fun l => Nat.blt l 68,id,hr,?_,.inl ⟨rfl,⟨k + 1,by omega,by omega⟩,by show 100000 - (k + 1) < 100000 - k; omega,rfl,rfl,?_⟩⟩
  ·simp (disch:=omega) only [rr, tt, z64_has,z64_like,decide_eq_true,decide_eq_false,Bool.and_self,cond_true,and_self,ge_iff_le]
  ·refine ⟨fun _ _ => rfl,⟨⟨rfl,by kernel_rfl,rfl,rfl,rfl,trivial,by kernel_rfl⟩,⟨rfl,flat_all (z64_flat n),rfl,rfl,rfl,trivial,(flat_map (z64_flat n)).symm⟩,trivial⟩,rfl,⟨⟨rfl,Nat.le_refl _⟩,trivial⟩,⟨⟨by kernel_rfl,by kernel_rfl⟩,⟨by kernel_rfl,by kernel_rfl⟩,⟨by kernel_rfl,by kernel_rfl⟩,⟨by kernel_rfl,by kernel_rfl⟩,⟨by kernel_rfl,by kernel_rfl⟩,trivial⟩,Nat.le_refl _,fun l hl => blt_no hl,mcF_ok n,fun x _ _ => .inl rfl⟩
 ·have hr:=cl_e x y m n (k : Int)
  have w1 : IntKind.i64.wrap ((k : Int) * (64 : Int)) = (k : Int) * 64:=wrap_i64 (by omega) (by omega)
  simp only [rr, tt, w1] at hr
  refine ⟨_,.exit 0,_,3,fun l => Nat.blt l 68,id,hr,?_,.inr ⟨by simp,rfl,?_⟩⟩
  ·exact ⟨trivial,decide_eq_false hc⟩
  ·exact ⟨fun _ _ => rfl,⟨⟨rfl,flat_all (z64_flat n),rfl,rfl,rfl,trivial,(flat_map (z64_flat n)).symm⟩,trivial⟩,rfl,⟨⟨rfl,Nat.le_refl _⟩,trivial⟩,⟨⟨by kernel_rfl,by kernel_rfl⟩,trivial⟩,Nat.le_refl _,fun l hl => blt_no hl,mcF_ok n,fun x _ _ => .inl rfl⟩
def mcEnt (x y : Int) (m n : Nat) (h : InMap x y m n) : Ent Try.prog :=
 entC Try.prog 83 0 56 (mcI x y m n ((x.toNat / 64 : Nat) : Int)) (.exit 0) (mcF n) (by kernel_rfl) (by kernel_rfl) (mc_loop x y m n h ⟨x.toNat / 64,by obtain ⟨h1,h2,h3,h4,h5⟩:=h; omega,by obtain ⟨h1,h2,h3,h4,h5⟩:=h; omega⟩)
end Go.Proofs.Ytliidiceljdgmaa
namespace Go.Proofs.Ytliidiceljdgmaa
open Go.RowKit
open Sy
set_option maxRecDepth 100000
theorem cl_c (x y : Int) (m n : Nat) (h : InMap x y m n) : evF Try.prog (baseC 3 selOne) (lpEsc [mcEnt x y m n h]) 100 40 83 [Value.pointer (some ⟨66,0,none⟩),.int .i64 x,.int .i64 y] ⟨68,mpH m n,[(65,n)],0,[(0,false),(1,false)],0,True⟩ = some (Value.int .i64 0,{ n:=68,h:=[(65,⟨true,some (65,1),z64 n,none⟩),(66,⟨false,none,[Value.int .i64 (↑m),.slice (some ⟨65,0,none⟩) n 9223372036854775873],none⟩)],lo:=[(65,n),(65,n)],esc:=0,T:=[],k:=2,O:=((True∧rr false)∧decide ((if (0:Int) > x then (0:Int) else x) ≥ if (↑m:Int) < y then (↑m:Int) else y) = false)∧(rr (Value.pointer (some ⟨66,0,none⟩))∧Value.int .i64 (if (0:Int) > x then (0:Int) else x) = Value.int .i64 x∧Value.int .i64 (if (↑m:Int) < y then (↑m:Int) else y) = Value.int .i64 y∧rr (Value.int .i64 0)∧Value.int .i64 (IntKind.i64.wrap ((if (0:Int) > x then (0:Int) else x).tdiv (64:Int))) = Value.int .i64 (↑(x.toNat / 64))∧True)∧((tt∧tt∧True∧rr [Value.int .i64 (↑m),.slice (some ⟨65,0,none⟩) n 9223372036854775873])∧(tt∧tt∧True∧rr (z64 n))∧True)∧(n ≤ n∧True)∧True : St }):=by kernel_rfl
def clzC (x y : Int) (m n : Nat) : Con:=⟨[.pointer (some ⟨66,0,none⟩),.int .i64 x,.int .i64 y],68,mpH m n,[(65,n)],.int .i64 0,68,[(65,⟨true,some (65,1),z64 n,none⟩)],[]⟩
theorem mp_cell {q : Nat → Bool} (h : ∀ l,l < 68 → q l = true) (m n : Nat) : ∀ v ∈ ([.int .i64 (m : Nat),.slice (some ⟨65,0,none⟩) n (big + 65)] : List Value),okV q 3 v = true:=by
 intro v hv
 have h5:=h 65 (by omega)
 simp only [rr, tt, List.mem_cons,List.not_mem_nil,or_false] at hv
 rcases hv with rfl | rfl <;> simp [okV,bndA,h5,flat0]
theorem lt68 : ∀ l,l < 68 → (fun l => Nat.blt l 68) l = true:=fun l hl => blt_yes hl
theorem keeps68 (l : Nat) (h : l < 68) : keeps 68 68 id (fun l => Nat.blt l 68) l = true:=by
 unfold keeps
 simp only [rr, tt, blt_yes h,cond_true,id,Nat.beq_refl,Bool.and_self,Bool.or_true]
theorem clz_con (x y : Int) (m n : Nat) (h : InMap x y m n) : ConOk Try.prog 83 3 (clzC x y m n):=by
 have h':=h
 obtain ⟨h1,h2,h3,h4,h5⟩:=h'
 have hr:=cl_c x y m n h
 have e1 : (if (0 : Int) > x then (0 : Int) else x) = x:=if_neg (by omega)
 have e2 : (if (m : Int) < y then (m : Int) else y) = y:=if_neg (by omega)
 have e3 : IntKind.i64.wrap (x.tdiv (64 : Int)) = ((x.toNat / 64 : Nat) : Int):=by
  obtain ⟨z,rfl⟩:=Int.eq_ofNat_of_zero_le h1
  rw [show (z : Int).tdiv (64 : Int) = ((z / 64 : Nat) : Int) from (Int.ofNat_tdiv z 64).symm,wrap_i64 (by omega) (by omega)]
  rfl
 simp only [rr, tt, e1,e2,e3] at hr
 refine conOk_run (run_ok (L:=100) ar_names (baseC_ok selOne_ok) (lpEsc_ok _) 40) ⟨by show 64 ≤ 68; omega,Nat.le_refl _,⟨⟨rfl,rfl,fun v hv => okV_bnd 3 v (mp_cell lt68 m n v hv)⟩,⟨rfl,rfl,flat_bnd (z64_flat n)⟩,trivial⟩,rfl,rfl,rfl,rfl,rfl,fun x hx v hv => ?_⟩ hr ?_ (p:=fun l => Nat.blt l 68) (σ:=id) ?_
 ·obtain rfl:=List.mem_singleton.1 hx
  exact okV_flat0 (z64_flat n v hv) 3
 ·simp only [rr, tt, and_true,true_and,and_self,Nat.le_refl]
  exact decide_eq_false (by omega)
 ·exact ⟨fun _ _ => rfl,⟨⟨rfl,flat_all (z64_flat n),rfl,rfl,rfl,trivial,(flat_map (z64_flat n)).symm⟩,trivial⟩,rfl,trivial,⟨rfl,by rw [rnV_id]; rfl⟩,rfl,⟨⟨rfl,rfl,flat_bnd (z64_flat n)⟩,trivial⟩,rfl,bnd_flat0 _ rfl,fun x _ _ => .inl rfl⟩
end Go.Proofs.Ytliidiceljdgmaa
namespace Go.Proofs.Ytliidiceljdgmaa
open Go.RowKit
open Sy
set_option maxRecDepth 100000
def leW : Nat → Nat → List UInt8
 | 0,_ => []
 | w + 1,n => UInt8.ofNat (n % 256) :: leW w (n / 256)
def putZ (w v : Int) : Con:=Con.pure [.string ⟨⟨[]⟩⟩,.int .i64 w,.int .u32 v] (.string ⟨⟨leW w.toNat v.toNat⟩⟩)
def putZOk (w v : Int) : Prop:=w = 4 ∧ 0 ≤ v ∧ v < 4294967296
def selAr (m n : Nat) : SelC:=fun f args _ => bif Nat.beq f 60 then
 match args with
 | [_,.int .i64 w,.int .u32 v] => some (putZ w v,[],putZOk w v)
 | _ => none
 else bif Nat.beq f 83 then
 match args with
 | [_,.int .i64 x,.int .i64 y] => some (clzC x y m n,[64,65,66,67],InMap x y m n)
 | _ => none
 else none
def arL (rw : Bool) (zs : List UInt8) (N m n : Nat) : Sy.Heap:=[(67,⟨rw,none,[.pointer (some ⟨66,0,none⟩),.slice (some ⟨64,0,none⟩) N (big + 64)],none⟩),(66,⟨rw,none,[.int .i64 (m : Nat),.slice (some ⟨65,0,none⟩) n (big + 65)],none⟩),(65,⟨rw,some (65,1),z64 n,none⟩),(64,⟨rw,some (64,1),u8s zs,none⟩)]
def arO (N n : Nat) : List (Nat × Nat):=[(65,n),(64,N)]
theorem ar_st (at_ v : Int) (zs : List UInt8) (N m n : Nat) : evF Try.prog (baseC 3 (selAr m n)) noLoop 100 40 37 [Value.pointer (some ⟨67,0,none⟩),.int .u32 at_,.int .i64 4,.int .u32 v] ⟨68,arL true zs N m n,arO N n,0,[(0,true),(1,false),(2,false),(3,false),(4,false),(5,false),(6,false),(7,true),(8,true),(9,true),(10,true),(11,true),(12,true),(13,true),(14,true),(15,true),(16,true),(17,true),(18,true),(19,true),(20,true),(21,true),(22,true),(23,true),(24,true),(25,true),(26,true),(27,true),(28,true),(29,false),(30,true),(31,true)],0,True⟩ = some (Value.bool true,{ n:=70,h:=[(65,⟨true,some (65,1),List.map (rnV (lift 68 70 [64,65,66,67]) 3) (z64 n),none⟩),(67,⟨true,none,[Value.pointer (some ⟨66,0,none⟩),.slice (some ⟨64,0,none⟩) N 9223372036854775872],none⟩),(66,⟨true,none,[Value.int .i64 (↑m),.slice (some ⟨65,0,none⟩) n 9223372036854775873],none⟩),(64,⟨true,some (64,1),setAt (0+at_.toNat * 1) (List.take (Nat.min 4 (N - at_.toNat) * 1) [Value.int .u8 (↑(UInt8.ofNat (v.toNat % 256)).toNat:Int),.int .u8 (↑(UInt8.ofNat (v.toNat / 256 % 256)).toNat:Int),.int .u8 (↑(UInt8.ofNat (v.toNat / 256 / 256 % 256)).toNat:Int),.int .u8 (↑(UInt8.ofNat (v.toNat / 256 / 256 / 256 % 256)).toNat:Int)]) (u8s zs),none⟩)],lo:=[(69,N - at_.toNat),(68,4),(65,n),(64,N)],esc:=0,T:=[],k:=32,O:=((bif hasN (0+at_.toNat * 1+lenT (List.take (Nat.min 4 (N - at_.toNat) * 1) [Value.int .u8 (↑(UInt8.ofNat (v.toNat % 256)).toNat:Int),.int .u8 (↑(UInt8.ofNat (v.toNat / 256 % 256)).toNat:Int),.int .u8 (↑(UInt8.ofNat (v.toNat / 256 / 256 % 256)).toNat:Int),.int .u8 (↑(UInt8.ofNat (v.toNat / 256 / 256 / 256 % 256)).toNat:Int)])) (u8s zs) && oneC (List.take (Nat.min 4 (N - at_.toNat) * 1) [Value.int .u8 (↑(UInt8.ofNat (v.toNat % 256)).toNat:Int),.int .u8 (↑(UInt8.ofNat (v.toNat / 256 % 256)).toNat:Int),.int .u8 (↑(UInt8.ofNat (v.toNat / 256 / 256 % 256)).toNat:Int),.int .u8 (↑(UInt8.ofNat (v.toNat / 256 / 256 / 256 % 256)).toNat:Int)]) && (List.take (Nat.min 4 (N - at_.toNat) * 1) [Value.int .u8 (↑(UInt8.ofNat (v.toNat % 256)).toNat:Int),.int .u8 (↑(UInt8.ofNat (v.toNat / 256 % 256)).toNat:Int),.int .u8 (↑(UInt8.ofNat (v.toNat / 256 / 256 % 256)).toNat:Int),.int .u8 (↑(UInt8.ofNat (v.toNat / 256 / 256 / 256 % 256)).toNat:Int)]).all flat0 then bif (lenT (List.take (Nat.min 4 (N - at_.toNat) * 1) [Value.int .u8 (↑(UInt8.ofNat (v.toNat % 256)).toNat:Int),.int .u8 (↑(UInt8.ofNat (v.toNat / 256 % 256)).toNat:Int),.int .u8 (↑(UInt8.ofNat (v.toNat / 256 / 256 % 256)).toNat:Int),.int .u8 (↑(UInt8.ofNat (v.toNat / 256 / 256 / 256 % 256)).toNat:Int)])).beq (Nat.min 4 (N - at_.toNat) * 1) then bif hasN (0+Nat.min 4 (N - at_.toNat) * 1) [Value.int .u8 (↑(UInt8.ofNat (v.toNat % 256)).toNat:Int),.int .u8 (↑(UInt8.ofNat (v.toNat / 256 % 256)).toNat:Int),.int .u8 (↑(UInt8.ofNat (v.toNat / 256 / 256 % 256)).toNat:Int),.int .u8 (↑(UInt8.ofNat (v.toNat / 256 / 256 / 256 % 256)).toNat:Int)] then (bif decide ((0:Int) ≤ at_) && decide (at_ ≤ (↑N:Int)) then ((((((((((((((((((((((((((((((True∧(rr ((4:Int))∧(0:Int) ≤ v∧v < (4294967296:Int))∧(Value.string { data:=#[] : ByteArray } = Value.string ⟨⟨[]⟩⟩∧rr (Value.int .i64 4)∧rr (Value.int .u32 v)∧True)∧True∧True)∧tt)∧rr false)∧rr false)∧rr false)∧rr false)∧rr false)∧rr false)∧tt)∧tt)∧tt)∧tt)∧tt)∧tt)∧tt)∧tt)∧tt)∧tt)∧tt)∧decide ((4:Int) ≤ (↑N:Int)) = true)∧decide ((4:Int) ≤ (↑N:Int)) = true)∧decide ((4:Int) ≤ (↑N:Int)) = true)∧decide ((4:Int) ≤ (↑N:Int)) = true)∧decide ((4:Int) ≤ (↑N:Int)) = true)∧decide ((4:Int) ≤ (↑N:Int)) = true)∧decide ((4:Int) ≤ (↑N:Int)) = true)∧decide ((4:Int) ≤ (↑N:Int)) = true)∧decide ((4:Int) ≤ (↑N:Int)) = true)∧decide ((4:Int) ≤ (↑N:Int)) = true)∧decide ((4:Int) ≤ (↑N:Int)) = true)∧(!decide (IntKind.i64.wrap at_ ≤ IntKind.i64.wrap ((↑N:Int) - (4:Int)))) = false else False)∧at_.toNat.blt N = true else False else False else False)∧tt)∧((0:Int) ≤ IntKind.i64.wrap ((IntKind.i64.wrap at_).tdiv (16:Int))∧IntKind.i64.wrap ((IntKind.i64.wrap at_).tdiv (16:Int)) < IntKind.i64.wrap (IntKind.i64.wrap ((IntKind.i64.wrap (IntKind.i64.wrap (IntKind.i64.wrap at_+(4:Int)) - (1:Int))).tdiv (16:Int))+(1:Int))∧IntKind.i64.wrap (IntKind.i64.wrap ((IntKind.i64.wrap (IntKind.i64.wrap (IntKind.i64.wrap at_+(4:Int)) - (1:Int))).tdiv (16:Int))+(1:Int)) ≤ (↑m:Int)∧m ≤ 64 * n∧n ≤ 100000)∧(rr (Value.pointer (some ⟨66,0,none⟩))∧rr (Value.int .i64 (IntKind.i64.wrap ((IntKind.i64.wrap at_).tdiv (16:Int))))∧rr (Value.int .i64 (IntKind.i64.wrap (IntKind.i64.wrap ((IntKind.i64.wrap (IntKind.i64.wrap (IntKind.i64.wrap at_+(4:Int)) - (1:Int))).tdiv (16:Int))+(1:Int))))∧True)∧((tt∧tt∧tt∧tt∧tt∧True∧rr [Value.int .i64 (↑m),.slice (some ⟨65,0,none⟩) n 9223372036854775873])∧(tt∧(z64 n).all (okV (fun l => l.blt 68) 3) = true∧tt∧tt∧tt∧True∧z64 n = List.map (rnV (lift 68 70 [64,65,66,67]) 3) (z64 n))∧True)∧(tt∧n ≤ n)∧True : St }):=by kernel_rfl
theorem ar_wr (at_ : Int) (d zs : List UInt8) (N m n : Nat) : evF Try.prog (baseC 3 (selAr m n)) noLoop 100 40 38 [Value.pointer (some ⟨67,0,none⟩),.int .u32 at_,.string ⟨⟨d⟩⟩] ⟨68,arL true zs N m n,arO N n,0,[(0,false),(1,false),(2,false),(3,false),(4,false),(5,false),(6,true),(7,true),(8,true),(9,true),(10,true),(11,true),(12,true),(13,true),(14,true),(15,true),(16,true),(17,true),(18,true),(19,true),(20,true),(21,true),(22,true),(23,true),(24,true),(25,true),(26,true),(27,true),(28,false),(29,true),(30,true)],0,True⟩ = some (Value.bool true,{ n:=70,h:=[(65,⟨true,some (65,1),List.map (rnV (lift 68 70 [64,65,66,67]) 3) (z64 n),none⟩),(67,⟨true,none,[Value.pointer (some ⟨66,0,none⟩),.slice (some ⟨64,0,none⟩) N 9223372036854775872],none⟩),(66,⟨true,none,[Value.int .i64 (↑m),.slice (some ⟨65,0,none⟩) n 9223372036854775873],none⟩),(64,⟨true,some (64,1),setAt (0+at_.toNat * 1) (List.take ((lenT d).min (N - at_.toNat) * 1) (List.drop 0 (List.map (fun c => Value.int .u8 (↑c.toNat)) d))) (u8s zs),none⟩)],lo:=[(69,N - at_.toNat),(68,lenT d),(65,n),(64,N)],esc:=0,T:=[],k:=31,O:=((bif hasN (0+at_.toNat * 1+lenT (List.take ((lenT d).min (N - at_.toNat) * 1) (List.drop 0 (List.map (fun c => Value.int .u8 (↑c.toNat)) d)))) (u8s zs) && oneC (List.take ((lenT d).min (N - at_.toNat) * 1) (List.drop 0 (List.map (fun c => Value.int .u8 (↑c.toNat)) d))) && (List.take ((lenT d).min (N - at_.toNat) * 1) (List.drop 0 (List.map (fun c => Value.int .u8 (↑c.toNat)) d))).all flat0 then bif (lenT (List.take ((lenT d).min (N - at_.toNat) * 1) (List.drop 0 (List.map (fun c => Value.int .u8 (↑c.toNat)) d)))).beq ((lenT d).min (N - at_.toNat) * 1) then bif hasN (0+(lenT d).min (N - at_.toNat) * 1) (List.map (fun c => Value.int .u8 (↑c.toNat)) d) then (bif decide ((0:Int) ≤ at_) && decide (at_ ≤ (↑N:Int)) then ((((((((((((((((((((((((((((True∧rr false)∧rr false)∧rr false)∧rr false)∧rr false)∧rr false)∧tt)∧tt)∧tt)∧decide ((↑(lenT d):Int) ≥ (0:Int)) = true)∧decide ((↑(lenT d):Int) ≥ (0:Int)) = true)∧decide ((↑(lenT d):Int) ≥ (0:Int)) = true)∧decide ((↑(lenT d):Int) ≥ (0:Int)) = true)∧decide ((↑(lenT d):Int) ≥ (0:Int)) = true)∧decide ((↑(lenT d):Int) ≥ (0:Int)) = true)∧decide ((↑(lenT d):Int) ≥ (0:Int)) = true)∧decide ((↑(lenT d):Int) ≥ (0:Int)) = true)∧decide ((↑(lenT d):Int) ≤ (↑N:Int)) = true)∧decide ((↑(lenT d):Int) ≤ (↑N:Int)) = true)∧decide ((↑(lenT d):Int) ≤ (↑N:Int)) = true)∧decide ((↑(lenT d):Int) ≤ (↑N:Int)) = true)∧decide ((↑(lenT d):Int) ≤ (↑N:Int)) = true)∧decide ((↑(lenT d):Int) ≤ (↑N:Int)) = true)∧decide ((↑(lenT d):Int) ≤ (↑N:Int)) = true)∧decide ((↑(lenT d):Int) ≤ (↑N:Int)) = true)∧decide ((↑(lenT d):Int) ≤ (↑N:Int)) = true)∧decide ((↑(lenT d):Int) ≤ (↑N:Int)) = true)∧decide ((↑(lenT d):Int) ≤ (↑N:Int)) = true)∧(!decide (IntKind.i64.wrap at_ ≤ IntKind.i64.wrap ((↑N:Int) - (↑(lenT d):Int)))) = false else False)∧at_.toNat.blt N = true else False else False else False)∧decide ((↑(lenT d):Int) > (0:Int)) = true)∧((0:Int) ≤ IntKind.i64.wrap ((IntKind.i64.wrap at_).tdiv (16:Int))∧IntKind.i64.wrap ((IntKind.i64.wrap at_).tdiv (16:Int)) < IntKind.i64.wrap (IntKind.i64.wrap ((IntKind.i64.wrap (IntKind.i64.wrap (IntKind.i64.wrap at_+(↑(lenT d):Int)) - (1:Int))).tdiv (16:Int))+(1:Int))∧IntKind.i64.wrap (IntKind.i64.wrap ((IntKind.i64.wrap (IntKind.i64.wrap (IntKind.i64.wrap at_+(↑(lenT d):Int)) - (1:Int))).tdiv (16:Int))+(1:Int)) ≤ (↑m:Int)∧m ≤ 64 * n∧n ≤ 100000)∧(rr (Value.pointer (some ⟨66,0,none⟩))∧rr (Value.int .i64 (IntKind.i64.wrap ((IntKind.i64.wrap at_).tdiv (16:Int))))∧rr (Value.int .i64 (IntKind.i64.wrap (IntKind.i64.wrap ((IntKind.i64.wrap (IntKind.i64.wrap (IntKind.i64.wrap at_+(↑(lenT d):Int)) - (1:Int))).tdiv (16:Int))+(1:Int))))∧True)∧((tt∧tt∧tt∧tt∧tt∧True∧rr [Value.int .i64 (↑m),.slice (some ⟨65,0,none⟩) n 9223372036854775873])∧(tt∧(z64 n).all (okV (fun l => l.blt 68) 3) = true∧tt∧tt∧tt∧True∧z64 n = List.map (rnV (lift 68 70 [64,65,66,67]) 3) (z64 n))∧True)∧(tt∧n ≤ n)∧True : St }):=by kernel_rfl
theorem ar_w0 (at_ : Int) (d zs : List UInt8) (N m n : Nat) : evF Try.prog (baseC 3 (selAr m n)) noLoop 100 40 38 [Value.pointer (some ⟨67,0,none⟩),.int .u32 at_,.string ⟨⟨d⟩⟩] ⟨68,arL true zs N m n,arO N n,0,[(0,false),(1,false),(2,false),(3,false),(4,false),(5,false),(6,true),(7,true),(8,true),(9,true),(10,true),(11,true),(12,true),(13,true),(14,true),(15,true),(16,true),(17,true),(18,true),(19,true),(20,true),(21,true),(22,true),(23,true),(24,true),(25,true),(26,true),(27,true),(28,false),(29,true),(30,false)],0,True⟩ = some (Value.bool true,{ n:=70,h:=[(67,⟨true,none,[Value.pointer (some ⟨66,0,none⟩),.slice (some ⟨64,0,none⟩) N 9223372036854775872],none⟩),(66,⟨true,none,[Value.int .i64 (↑m),.slice (some ⟨65,0,none⟩) n 9223372036854775873],none⟩),(65,⟨true,some (65,1),z64 n,none⟩),(64,⟨true,some (64,1),setAt (0+at_.toNat * 1) (List.take ((lenT d).min (N - at_.toNat) * 1) (List.drop 0 (List.map (fun c => Value.int .u8 (↑c.toNat)) d))) (u8s zs),none⟩)],lo:=[(69,N - at_.toNat),(68,lenT d),(65,n),(64,N)],esc:=0,T:=[],k:=31,O:=(bif hasN (0+at_.toNat * 1+lenT (List.take ((lenT d).min (N - at_.toNat) * 1) (List.drop 0 (List.map (fun c => Value.int .u8 (↑c.toNat)) d)))) (u8s zs) && oneC (List.take ((lenT d).min (N - at_.toNat) * 1) (List.drop 0 (List.map (fun c => Value.int .u8 (↑c.toNat)) d))) && (List.take ((lenT d).min (N - at_.toNat) * 1) (List.drop 0 (List.map (fun c => Value.int .u8 (↑c.toNat)) d))).all flat0 then bif (lenT (List.take ((lenT d).min (N - at_.toNat) * 1) (List.drop 0 (List.map (fun c => Value.int .u8 (↑c.toNat)) d)))).beq ((lenT d).min (N - at_.toNat) * 1) then bif hasN (0+(lenT d).min (N - at_.toNat) * 1) (List.map (fun c => Value.int .u8 (↑c.toNat)) d) then (bif decide ((0:Int) ≤ at_) && decide (at_ ≤ (↑N:Int)) then ((((((((((((((((((((((((((((True∧rr false)∧rr false)∧rr false)∧rr false)∧rr false)∧rr false)∧tt)∧tt)∧tt)∧decide ((↑(lenT d):Int) ≥ (0:Int)) = true)∧decide ((↑(lenT d):Int) ≥ (0:Int)) = true)∧decide ((↑(lenT d):Int) ≥ (0:Int)) = true)∧decide ((↑(lenT d):Int) ≥ (0:Int)) = true)∧decide ((↑(lenT d):Int) ≥ (0:Int)) = true)∧decide ((↑(lenT d):Int) ≥ (0:Int)) = true)∧decide ((↑(lenT d):Int) ≥ (0:Int)) = true)∧decide ((↑(lenT d):Int) ≥ (0:Int)) = true)∧decide ((↑(lenT d):Int) ≤ (↑N:Int)) = true)∧decide ((↑(lenT d):Int) ≤ (↑N:Int)) = true)∧decide ((↑(lenT d):Int) ≤ (↑N:Int)) = true)∧decide ((↑(lenT d):Int) ≤ (↑N:Int)) = true)∧decide ((↑(lenT d):Int) ≤ (↑N:Int)) = true)∧decide ((↑(lenT d):Int) ≤ (↑N:Int)) = true)∧decide ((↑(lenT d):Int) ≤ (↑N:Int)) = true)∧decide ((↑(lenT d):Int) ≤ (↑N:Int)) = true)∧decide ((↑(lenT d):Int) ≤ (↑N:Int)) = true)∧decide ((↑(lenT d):Int) ≤ (↑N:Int)) = true)∧decide ((↑(lenT d):Int) ≤ (↑N:Int)) = true)∧(!decide (IntKind.i64.wrap at_ ≤ IntKind.i64.wrap ((↑N:Int) - (↑(lenT d):Int)))) = false else False)∧at_.toNat.blt N = true else False else False else False)∧decide ((↑(lenT d):Int) > (0:Int)) = false : St }):=by kernel_rfl
end Go.Proofs.Ytliidiceljdgmaa
namespace Go.Proofs.Ytliidiceljdgmaa
open Go.RowKit
open Sy
set_option maxRecDepth 100000
theorem u8s_flatA (xs : List UInt8) : ∀ v ∈ u8s xs,flat0 v = true:=fun v hv => by
 obtain ⟨b,_,rfl⟩:=List.mem_map.1 hv; rfl
theorem u8s_lenA (zs : List UInt8) : (u8s zs).length = zs.length:=by simp [u8s]
theorem u8s_hasA (a : List UInt8) (n : Nat) : hasN n (u8s a) = decide (n ≤ a.length):=by
 rw [Bool.eq_iff_iff,hasN_iff]; simp [u8s]
def patA (i : Nat) (bs zs : List UInt8) : List UInt8:=zs.take i ++ bs ++ zs.drop (i + bs.length)
theorem patA_len (i : Nat) (bs zs : List UInt8) (h : i + bs.length ≤ zs.length) : (patA i bs zs).length = zs.length:=by
 simp [patA]; omega
theorem patA_get (i : Nat) (bs zs : List UInt8) (h : i + bs.length ≤ zs.length) (j : Nat) : (patA i bs zs)[j]? = if i ≤ j ∧ j < i + bs.length then bs[j - i]? else zs[j]?:=by
 unfold patA
 by_cases h1 : j < i
 ·rw [if_neg (by omega),List.append_assoc,List.getElem?_append_left (by simp; omega),List.getElem?_take_of_lt h1]
 ·by_cases h2 : j < i + bs.length
  ·rw [if_pos ⟨by omega,h2⟩,List.append_assoc,List.getElem?_append_right (by simp; omega),List.getElem?_append_left (by simp; omega)]
   congr 1; simp; omega
  ·rw [if_neg (by omega),List.getElem?_append_right (by simp; omega),List.getElem?_drop]
   congr 1; simp; omega
theorem setAt_A (i : Nat) (bs zs : List UInt8) (vs : List Value) (hv : vs = u8s bs) (h : i + bs.length ≤ zs.length) : setAt i vs (u8s zs) = u8s (patA i bs zs):=by
 subst hv
 apply List.ext_getElem?
 intro j
 rw [setAt_get _ _ _ _ (by simpa [u8s] using h)]
 simp only [rr, tt, u8s,List.getElem?_map,List.length_map]
 rw [patA_get i bs zs h]
 split <;> rfl
theorem leW_len : ∀ (w n : Nat),(leW w n).length = w
 | 0,_ => rfl
 | w + 1,n => by simp [leW,leW_len w]
theorem fdA (n k : Nat) : (n : Int).fdiv (k : Int) = ((n / k : Nat) : Int):=by
 rw [Int.fdiv_eq_ediv_of_nonneg _ (by omega)]; rfl
theorem w8A (n : Nat) : (IntKind.u8.wrap (n : Int)).toNat = n % 256:=by rw [IntKind.wrap_u8]; omega
theorem w32A (n : Nat) (h : n < 4294967296) : IntKind.u32.wrap (n : Int) = (n : Int):=by simp only [rr, tt, IntKind.wrap_u32]; omega
theorem w64A (n : Nat) (h : n < 9000000000000000000) : IntKind.i64.wrap (n : Int) = (n : Int):=wrap_i64 (by omega) (by omega)
theorem put4 (s : List UInt8) (v : Int) : obs (evF Try.prog noBase noLoop 100 10 60 [Value.string ⟨⟨s⟩⟩,.int .i64 4,.int .u32 v] (stT [])) = some (Value.string ⟨⟨s++[UInt8.ofNat (IntKind.u8.wrap (v.fdiv (1:Int))).toNat,UInt8.ofNat (IntKind.u8.wrap (v.fdiv (256:Int))).toNat,UInt8.ofNat (IntKind.u8.wrap (v.fdiv (65536:Int))).toNat,UInt8.ofNat (IntKind.u8.wrap (v.fdiv (16777216:Int))).toNat]⟩⟩,bif (lenT s+4).blt 9223372036854775808 then True else False):=by kernel_rfl
theorem put_conA (w v : Int) (h : putZOk w v) : ConOk Try.prog 60 3 (putZ w v):=by
 obtain ⟨rfl,h1,h2⟩:=h
 obtain ⟨n,rfl⟩:=Int.eq_ofNat_of_zero_le h1
 have hn : n < 4294967296:=by omega
 have m1:=w32A (n / 256) (by omega)
 have m2:=w32A (n / 256 / 256) (by omega)
 have m3:=w32A (n / 256 / 256 / 256) (by omega)
 have fd0 : (n : Int).fdiv (1 : Int) = ((n / 1 : Nat) : Int):=fdA n 1
 have fd1 : ∀ n : Nat,(n : Int).fdiv (256 : Int) = ((n / 256 : Nat) : Int):=fun n => fdA n 256
 have fd2 : (n : Int).fdiv (65536 : Int) = ((n / 65536 : Nat) : Int):=fdA n 65536
 have fd3 : (n : Int).fdiv (16777216 : Int) = ((n / 16777216 : Nat) : Int):=fdA n 16777216
 have td1 : ∀ n : Nat,(n : Int).tdiv (256 : Int) = ((n / 256 : Nat) : Int):=fun n => (Int.ofNat_tdiv n 256).symm
 have tm1 : ∀ n : Nat,(n : Int).tmod (256 : Int) = ((n % 256 : Nat) : Int):=fun n => (Int.ofNat_tmod n 256).symm
 have dd2 : n / 65536 = n / 256 / 256:=by omega
 have dd3 : n / 16777216 = n / 256 / 256 / 256:=by omega
 have hr:=put4 [] (n : Int)
 simp only [rr, tt, fd0,fd1,fd2,fd3,td1,tm1,m1,m2,m3,w8A,dd2,dd3,Nat.div_one,Nat.mod_mod,List.append_assoc,List.cons_append,List.nil_append] at hr
 exact pure_run (run_ok ar_names (noBase_ok _) (noLoop_ok _) 10) (v:=.string ⟨⟨leW 4 n⟩⟩) hr (by
  simp only [rr, tt, lenT_eq,List.length_append,List.length_cons,List.length_nil]
  repeat (first | exact trivial | refine bif_true (blt_yes (by omega)) ?_)) rfl rfl
theorem selAr_ok (m n : Nat) : SelOk Try.prog 3 (selAr m n):=by
 intro f args s c ρ q h hq
 unfold selAr at h
 cases h1 : Nat.beq f 60 <;> rw [h1] at h
 ·simp only [rr, tt, cond_false] at h
  obtain ⟨h2,h3⟩:=bif_some h
  have h2:=eB h2
  subst h2
  split at h3
  ·cases h3; exact clz_con _ _ _ _ hq
  ·cases h3
 ·have h2:=eB h1
  subst h2
  simp only [rr, tt, cond_true] at h
  split at h
  ·cases h; exact put_conA _ _ hq
  ·cases h
structure ArOk (zs : List UInt8) (N m n : Nat) : Prop where
 len : zs.length = N
 tags : N ≤ 16 * m
 words : m ≤ 64 * n
 few : n ≤ 100000
 big : N ≤ 1000000
theorem arL_cell {q : Nat → Bool} (h : ∀ l,l < 68 → q l = true) (N m n : Nat) : (∀ v ∈ ([.pointer (some ⟨66,0,none⟩),.slice (some ⟨64,0,none⟩) N (big + 64)] : List Value),okV q 3 v = true) ∧ ∀ v ∈ ([.int .i64 (m : Nat),.slice (some ⟨65,0,none⟩) n (big + 65)] : List Value),okV q 3 v = true:=by
 have h4:=h 64 (by omega)
 have h5:=h 65 (by omega)
 have h6:=h 66 (by omega)
 constructor <;> intro v hv <;> simp only [rr, tt, List.mem_cons,List.not_mem_nil,or_false] at hv <;> rcases hv with rfl | rfl <;> simp [okV,bndA,h4,h5,h6,flat0]
theorem arL_okH {q : Nat → Bool} (h : ∀ l,l < 68 → q l = true) (rw : Bool) (zs : List UInt8) (N m n : Nat) : OkH q (arL rw zs N m n) :=
 ⟨⟨h 67 (by omega),rfl,fun v hv => okV_bnd 3 v ((arL_cell h N m n).1 v hv)⟩,⟨h 66 (by omega),rfl,fun v hv => okV_bnd 3 v ((arL_cell h N m n).2 v hv)⟩,⟨h 65 (by omega),h 65 (by omega),flat_bnd (z64_flat n)⟩,⟨h 64 (by omega),h 64 (by omega),flat_bnd (u8s_flatA zs)⟩,trivial⟩
theorem arL_okV (rw : Bool) (zs : List UInt8) (N m n : Nat) : ∀ x ∈ arL rw zs N m n,∀ v ∈ x.2.cells,okV (fun l => Nat.blt l 68) 3 v = true:=fun x hx v hv => by
 simp only [rr, tt, arL,List.mem_cons,List.not_mem_nil,or_false] at hx
 rcases hx with rfl | rfl | rfl | rfl
 ·exact (arL_cell lt68 N m n).1 v hv
 ·exact (arL_cell lt68 N m n).2 v hv
 ·exact okV_flat0 (z64_flat n v hv) 3
 ·exact okV_flat0 (u8s_flatA zs v hv) 3
theorem arL_flat (rw : Bool) (zs : List UInt8) (N m n : Nat) : ∀ x ∈ arL rw zs N m n,x.2.op ≠ none → ∀ v ∈ x.2.cells,flat0 v = true:=fun x hx hne => by
 simp only [rr, tt, arL,List.mem_cons,List.not_mem_nil,or_false] at hx
 rcases hx with rfl | rfl | rfl | rfl
 ·exact absurd rfl hne
 ·exact absurd rfl hne
 ·exact z64_flat n
 ·exact u8s_flatA zs
theorem map_id3 (σ : Nat → Nat) (hs : σ = id) (l : List Value) : l.map (rnV σ 3) = l:=by
 subst hs; rw [List.map_congr_left (fun v _ => rnV_id 3 v)]; simp
theorem arL_seen {s' : Sy.St} (zs : List UInt8) (N m n : Nat) (cs ws : List Value) (h67 : Sy.look s'.h 67 = some ⟨true,none,[.pointer (some ⟨66,0,none⟩),.slice (some ⟨64,0,none⟩) N (big + 64)],none⟩) (h66 : Sy.look s'.h 66 = some ⟨true,none,[.int .i64 (m : Nat),.slice (some ⟨65,0,none⟩) n (big + 65)],none⟩)
  (h65 : Sy.look s'.h 65 = some ⟨true,some (65,1),ws,none⟩) (h64 : Sy.look s'.h 64 = some ⟨true,some (64,1),cs,none⟩) (hw : ws = z64 n) (hc : cs = u8s zs) : SeenH 3 (fun l => Nat.blt l 68) id s'.h (arL true zs N m n):=by
 refine ⟨⟨rfl,List.all_eq_true.2 (arL_cell lt68 N m n).1,rfl,?_⟩,⟨rfl,List.all_eq_true.2 (arL_cell lt68 N m n).2,rfl,?_⟩,⟨rfl,flat_all (z64_flat n),rfl,?_⟩,⟨rfl,flat_all (u8s_flatA zs),rfl,?_⟩,trivial⟩
 ·simp only [rr, tt, id,h67]; exact ⟨rfl,rfl,trivial,(map_id3 _ rfl _).symm⟩
 ·simp only [rr, tt, id,h66]; exact ⟨rfl,rfl,trivial,(map_id3 _ rfl _).symm⟩
 ·simp only [rr, tt, id,h65]; exact ⟨rfl,rfl,trivial,by rw [map_id3 _ rfl,hw]⟩
 ·simp only [rr, tt, id,h64]; exact ⟨rfl,rfl,trivial,by rw [map_id3 _ rfl,hc]⟩
def layAC (args : List Value) (i : Nat) (bs zs : List UInt8) (N m n : Nat) : Con:=⟨args,68,arL true zs N m n,arO N n,.bool true,68,arL true (patA i bs zs) N m n,arO N n⟩
theorem layA_wf {args : List Value} (ha : args.all (okV (fun l => Nat.blt l 68) 3) = true) (i : Nat) (bs zs : List UInt8) (N m n : Nat) : (layAC args i bs zs N m n).Wf 3 :=
 ⟨by show 64 ≤ 68; omega,Nat.le_refl _,arL_okH lt68 true zs N m n,rfl,rfl,rfl,ha,rfl,arL_okV true _ N m n⟩
theorem layA_ends {args : List Value} {i : Nat} {bs zs : List UInt8} {N m n : Nat} {s' : Sy.St} (h1 : SeenH 3 (fun l => Nat.blt l 68) id s'.h (arL true (patA i bs zs) N m n)) (h2 : SeenO (fun l => Nat.blt l 68) id s'.lo (arO N n)) : (layAC args i bs zs N m n).Ends 3 (fun l => Nat.blt l 68) id (.bool true) s' :=
 ⟨fun _ _ => rfl,h1,rfl,h2,⟨rfl,rfl⟩,rfl,arL_okH keeps68 true _ N m n,rfl,bnd_flat0 _ rfl,fun x _ _ => .inl rfl⟩
theorem a_tdiv (n : Nat) : (n : Int).tdiv (16 : Int) = ((n / 16 : Nat) : Int):=(Int.ofNat_tdiv n 16).symm
theorem a_add (n k : Nat) : (n : Int) + (k : Int) = ((n + k : Nat) : Int):=by omega
theorem a_add4 (n : Nat) : (n : Int) + (4 : Int) = ((n + 4 : Nat) : Int):=by omega
theorem a_add1 (n : Nat) : (n : Int) + (1 : Int) = ((n + 1 : Nat) : Int):=by omega
theorem a_sub1 (n : Nat) (h : 1 ≤ n) : (n : Int) - (1 : Int) = ((n - 1 : Nat) : Int):=by omega
theorem a_sub4 (n : Nat) (h : 4 ≤ n) : (n : Int) - (4 : Int) = ((n - 4 : Nat) : Int):=by omega
theorem a_sub (n k : Nat) (h : k ≤ n) : (n : Int) - (k : Int) = ((n - k : Nat) : Int):=by omega
theorem a_min (k n : Nat) (h : k ≤ n) : Nat.min k n = k:=Nat.min_eq_left h
theorem a_beq {a b : Nat} (h : a = b) : Nat.beq a b = true:=by rw [h,Nat.beq_refl]
theorem a_blt {a b : Nat} (h : a < b) : Nat.blt a b = true:=blt_yes h
theorem z64_ok (p : Nat → Bool) (n : Nat) : (z64 n).all (okV p 3) = true:=flat_all (z64_flat n)
theorem z64_map (σ : Nat → Nat) (n : Nat) : (z64 n).map (rnV σ 3) = z64 n:=flat_map (z64_flat n)
def stAC (a v : Nat) (zs : List UInt8) (N m n : Nat) : Con:=layAC [.pointer (some ⟨67,0,none⟩),.int .u32 (a : Nat),.int .i64 4,.int .u32 (v : Nat)] a (leW 4 v) zs N m n
theorem stA_con (a v : Nat) (zs : List UInt8) (N m n : Nat) (h : ArOk zs N m n) (hv : v < 4294967296) (ha : a + 4 ≤ N) : ConOk Try.prog 37 3 (stAC a v zs N m n) ∧ FlatC (stAC a v zs N m n):=by
 obtain ⟨hl,h1,h2,h3,h4⟩:=h
 have hr:=ar_st (a : Int) (v : Int) zs N m n
 simp (disch:=omega) only [rr, tt, w64A,a_tdiv,a_add4,a_add1,a_sub1,a_sub4,Int.toNat_natCast,a_min,Nat.zero_add,Nat.mul_one,z64_map] at hr
 refine ⟨conOk_run (run_ok (L:=100) ar_names (baseC_ok (selAr_ok m n)) (noLoop_ok _) 40) (layA_wf rfl a (leW 4 v) zs N m n) hr ?_ (p:=fun l => Nat.blt l 68) (σ:=id) (layA_ends (arL_seen _ N m n _ _ rfl rfl rfl rfl rfl (setAt_A _ _ _ _ rfl (by rw [leW_len]; omega))) ⟨⟨rfl,Nat.le_refl _⟩,⟨rfl,Nat.le_refl _⟩,trivial⟩),⟨arL_flat _ _ _ _ _⟩⟩
 simp only [rr, tt, lenT_eq,List.length_cons,List.length_nil,List.take_succ_cons,List.take_zero,u8s_hasA,hl,z64_ok,z64_map]
 simp (disch:=omega) only [rr, tt, a_beq,a_blt]
 simp (disch:=omega) only [rr, tt, decide_eq_true,decide_eq_false,oneC,flat0,hasN,List.all_cons,List.all_nil,Bool.and_self,Bool.true_and,Bool.and_true,Bool.not_true,Bool.not_false,cond_true,and_true,true_and,and_self]
 exact ⟨(show _ ∧ _ from ⟨by omega,by omega⟩),⟨by omega,by omega,by omega,by omega,by omega⟩,by omega⟩
def wrAC (a : Nat) (d zs : List UInt8) (N m n : Nat) : Con:=layAC [.pointer (some ⟨67,0,none⟩),.int .u32 (a : Nat),.string ⟨⟨d⟩⟩] a d zs N m n
theorem u8s_fold (d : List UInt8) : List.map (fun c => Value.int .u8 (c.toNat : Int)) d = u8s d:=rfl
theorem u8s_oneC (d : List UInt8) : oneC (u8s d) = true:=List.all_eq_true.2 fun v hv => flat0_oneCell (u8s_flatA d v hv)
theorem u8s_all0 (d : List UInt8) : (u8s d).all flat0 = true:=List.all_eq_true.2 (u8s_flatA d)
theorem u8s_take (d : List UInt8) : List.take d.length (u8s d) = u8s d:=List.take_of_length_le (by rw [u8s_lenA]; exact Nat.le_refl _)
theorem wrA_con (a : Nat) (d zs : List UInt8) (N m n : Nat) (h : ArOk zs N m n) (ha : a + d.length ≤ N) (hlt : a < N) : ConOk Try.prog 38 3 (wrAC a d zs N m n) ∧ FlatC (wrAC a d zs N m n):=by
 obtain ⟨hl,h1,h2,h3,h4⟩:=h
 by_cases hd : 0 < d.length
 ·have hr:=ar_wr (a : Int) d zs N m n
  simp only [rr, tt, lenT_eq,u8s_fold,List.drop_zero] at hr
  simp (disch:=omega) only [rr, tt, w64A,a_tdiv,a_add,a_add1,a_sub1,a_sub,Int.toNat_natCast,a_min,Nat.zero_add,Nat.mul_one,z64_map,u8s_take] at hr
  refine ⟨conOk_run (run_ok (L:=100) ar_names (baseC_ok (selAr_ok m n)) (noLoop_ok _) 40) (layA_wf rfl a d zs N m n) hr ?_ (p:=fun l => Nat.blt l 68) (σ:=id) (layA_ends (arL_seen _ N m n _ _ rfl rfl rfl rfl rfl (setAt_A _ _ _ _ rfl (by omega))) ⟨⟨rfl,Nat.le_refl _⟩,⟨rfl,Nat.le_refl _⟩,trivial⟩),⟨arL_flat _ _ _ _ _⟩⟩
  simp only [rr, tt, u8s_hasA,hl,z64_ok,z64_map,u8s_lenA,u8s_oneC,u8s_all0,lenT_eq]
  simp (disch:=omega) only [rr, tt, a_beq,a_blt]
  simp (disch:=omega) only [rr, tt, decide_eq_true,decide_eq_false,Bool.and_self,Bool.true_and,Bool.and_true,Bool.not_true,Bool.not_false,cond_true,and_true,true_and,and_self]
  exact ⟨⟨by omega,by omega,by omega,by omega,by omega⟩,by omega⟩
 ·have hd0 : d = []:=List.length_eq_zero_iff.1 (by omega)
  subst hd0
  have hr:=ar_w0 (a : Int) [] zs N m n
  simp only [rr, tt, lenT_eq,u8s_fold,List.drop_zero,List.length_nil] at hr
  simp (disch:=omega) only [rr, tt, w64A,a_tdiv,a_sub,Int.toNat_natCast,a_min,Nat.zero_add,Nat.mul_one,z64_map,List.take_zero,Nat.zero_mul] at hr
  refine ⟨conOk_run (run_ok (L:=100) ar_names (baseC_ok (selAr_ok m n)) (noLoop_ok _) 40) (layA_wf rfl a [] zs N m n) hr ?_ (p:=fun l => Nat.blt l 68) (σ:=id) (layA_ends (arL_seen _ N m n _ _ rfl rfl rfl rfl rfl (setAt_A _ [] _ _ rfl (by simp; omega))) ⟨⟨rfl,Nat.le_refl _⟩,⟨rfl,Nat.le_refl _⟩,trivial⟩),⟨arL_flat _ _ _ _ _⟩⟩
  simp only [rr, tt, u8s_hasA,hl,z64_ok,z64_map,u8s_lenA,u8s_oneC,u8s_all0,lenT_eq]
  have e1 : oneC [] = true:=rfl
  simp (disch:=omega) only [rr, tt, List.length_nil,Nat.add_zero,Nat.sub_zero,a_beq,a_blt,e1,List.all_nil,Int.natCast_zero,Int.ofNat_zero]
  simp (disch:=omega) only [rr, tt, decide_eq_true,decide_eq_false,Bool.and_self,Bool.true_and,Bool.and_true,Bool.not_true,Bool.not_false,cond_true,and_true,true_and,and_self]
def byA (zs : List UInt8) (i : Nat) : Nat:=(zs.getD i 0).toNat
theorem orA_hi (x y k : Nat) (hx : x % 2 ^ k = 0) (hy : y < 2 ^ k) : x ||| y = x + y:=by
 have h:=Nat.two_pow_add_eq_or_of_lt hy (x / 2 ^ k)
 have h1 : 2 ^ k * (x / 2 ^ k) = x:=Nat.mul_div_cancel' (Nat.dvd_of_mod_eq_zero hx)
 rw [h1] at h
 exact h.symm
theorem orA (x y k : Nat) (hx : x % 2 ^ k = 0) (hy : y < 2 ^ k) (h : x + y < 4294967296) : bits .or .u32 (x : Int) (y : Int) = ((x + y : Nat) : Int):=by
 show IntKind.u32.wrap ((BitVec.ofInt 32 (x : Int) ||| BitVec.ofInt 32 (y : Int)).toNat : Int) = _
 rw [BitVec.toNat_or,BitVec.ofInt_natCast,BitVec.ofInt_natCast,BitVec.toNat_ofNat,BitVec.toNat_ofNat,Nat.mod_eq_of_lt (by omega),Nat.mod_eq_of_lt (by omega),orA_hi x y k hx hy,w32A _ h]
def numA (zs : List UInt8) (i : Nat) : Nat:=byA zs (i + 3) * 16777216 + byA zs (i + 2) * 65536 + byA zs (i + 1) * 256 + byA zs i
theorem toU8_map (l : List UInt8) : (u8s l).map toU8 = l:=by
 unfold u8s
 rw [List.map_map]
 conv => rhs; rw [← List.map_id l]
 apply List.map_congr_left
 intro x _
 show UInt8.ofNat ((x.toNat : Int)).toNat = x
 simp
theorem cut_u8s (zs : List UInt8) (a k : Nat) : List.take k (List.drop a (u8s zs)) = u8s ((zs.drop a).take k):=by
 unfold u8s; rw [List.map_take,List.map_drop]
theorem isU8_allA (zs : List UInt8) : (u8s zs).all isU8 = true:=List.all_eq_true.2 fun v hv => by
 obtain ⟨b,_,rfl⟩:=List.mem_map.1 hv; rfl
end Go.Proofs.Ytliidiceljdgmaa
namespace Go.Proofs.Ytliidiceljdgmaa
open Go.RowKit
open Sy
set_option maxRecDepth 100000
theorem repl_one (v : Value) : ∀ n : Nat,repl n [v] = List.replicate n v
 | 0 => rfl
 | n + 1 => by
  have:=repl_one v n
  simp only [rr, tt, repl,List.replicate_succ,List.cons_append,List.nil_append,this]
theorem repl_u8 (n : Nat) : List.replicate n (Value.int .u8 0) = u8s (List.replicate n 0):=by
 unfold u8s; rw [List.map_replicate]; rfl
def nGran (p : Nat) : Nat:=p * 256 / 16
def nWord (p : Nat) : Nat:=(nGran p + 63) / 64
def newA (p : Nat) : Con:=⟨[.int .i64 (p : Nat)],64,[],[],.tuple ⟨[.pointer (some ⟨67,0,none⟩),.int .i64 0]⟩,68,arL true (List.replicate (p * 256) 0) (p * 256) (nGran p) (nWord p),arO (p * 256) (nWord p)⟩
theorem newA_ok (p : Nat) (h1 : 16 ≤ p) (h2 : p ≤ 1024) : ArOk (List.replicate (p * 256) 0) (p * 256) (nGran p) (nWord p) :=
 ⟨List.length_replicate,by unfold nGran; omega,by unfold nWord; omega,by unfold nWord nGran; omega,by omega⟩
theorem newA_con (p : Nat) (h1 : 16 ≤ p) (h2 : p ≤ 1024) : ConOk Try.prog 36 3 (newA p) ∧ FlatC (newA p):=by
 have hr:=ar_new (p : Int)
 have e1 : (p : Int) * (256 : Int) = ((p * 256 : Nat) : Int):=by omega
 have e2 : ∀ n : Nat,(n : Int) + (64 : Int) = ((n + 64 : Nat) : Int):=fun n => by omega
 have e3 : ∀ n : Nat,(n : Int).tdiv (64 : Int) = ((n / 64 : Nat) : Int):=fun n => (Int.ofNat_tdiv n 64).symm
 simp (disch:=omega) only [rr, tt, e1,w64A,a_tdiv,e2,a_sub1,e3,Int.toNat_natCast,repl_one,repl_u8] at hr
 have e4 : (p * 256 / 16 + 64 - 1) / 64 = nWord p:=by unfold nWord nGran; omega
 have e5 : p * 256 / 16 = nGran p:=rfl
 have e6 : p * 256 / 16 + 64 - 1 = nGran p + 63:=by unfold nGran; omega
 have e7 : (nGran p + 63) / 64 = nWord p:=rfl
 simp only [rr, tt, e4] at hr
 simp only [rr, tt, e5,e6,e7] at hr
 have hc : okV (fun l => Nat.blt l 68) 3 (newA p).res = true:=rfl
 refine ⟨conOk_run (run_ok (L:=100) ar_names (noBase_ok _) (noLoop_ok _) 40) ⟨Nat.le_refl _,by show 64 ≤ 68; omega,trivial,rfl,rfl,rfl,rfl,rfl,arL_okV true _ _ _ _⟩ hr ?_ (p:=fun l => Nat.blt l 68) (σ:=id) ?_,⟨arL_flat _ _ _ _ _⟩⟩
 ·have b1 : nWord p ≤ 100000:=by unfold nWord nGran; omega
  have b2 : nGran p ≤ 100000:=by unfold nGran; omega
  simp (disch:=omega) only [rr, tt, decide_eq_true,decide_eq_false,Bool.and_self,Bool.true_and,Bool.and_true,Bool.not_true,Bool.not_false,cond_true,and_true,true_and,and_self]
 ·have hk : ∀ l,l < 68 → keeps 64 68 id (fun l => Nat.blt l 68) l = true:=fun l hl => by
   show (Nat.blt l NG || (bif Nat.blt l 64 then (Nat.beq l l && Nat.blt l 68) else Nat.blt l 68)) = true
   rw [blt_yes hl,Nat.beq_refl]
   cases Nat.blt l NG <;> cases Nat.blt l 64 <;> rfl
  exact ⟨fun _ _ => rfl,arL_seen _ _ _ _ _ _ rfl rfl rfl rfl rfl rfl,rfl,⟨⟨rfl,Nat.le_refl _⟩,⟨rfl,Nat.le_refl _⟩,trivial⟩,⟨hc,by rw [rnV_id]; rfl⟩,rfl,arL_okH hk true _ _ _ _,rfl,okV_bnd 3 _ rfl,fun x _ _ => .inl rfl⟩
end Go.Proofs.Ytliidiceljdgmaa
namespace Go.Proofs.Ytliidiceljdgmaa
open Go.RowKit
open Sy
set_option maxRecDepth 100000
theorem oc_x (x : Int) : obs (evF Try.prog noBase noLoop 100 5 102 [Value.int .u64 x] (stT [])) = some (Value.int .i64 (bits BinOp.and IntKind.i64 (IntKind.i64.wrap (IntKind.u64.wrap (IntKind.u64.wrap (IntKind.u64.wrap (bits BinOp.and IntKind.u64 (IntKind.u64.wrap ((IntKind.u64.wrap (bits BinOp.and IntKind.u64 ((IntKind.u64.wrap (bits BinOp.and IntKind.u64 (x.fdiv (2:Int)) (6148914691236517205:Int)+bits BinOp.and IntKind.u64 x (6148914691236517205:Int))).fdiv (4:Int)) (3689348814741910323:Int)+bits BinOp.and IntKind.u64 (IntKind.u64.wrap (bits BinOp.and IntKind.u64 (x.fdiv (2:Int)) (6148914691236517205:Int)+bits BinOp.and IntKind.u64 x (6148914691236517205:Int))) (3689348814741910323:Int))).fdiv (16:Int)+IntKind.u64.wrap (bits BinOp.and IntKind.u64 ((IntKind.u64.wrap (bits BinOp.and IntKind.u64 (x.fdiv (2:Int)) (6148914691236517205:Int)+bits BinOp.and IntKind.u64 x (6148914691236517205:Int))).fdiv (4:Int)) (3689348814741910323:Int)+bits BinOp.and IntKind.u64 (IntKind.u64.wrap (bits BinOp.and IntKind.u64 (x.fdiv (2:Int)) (6148914691236517205:Int)+bits BinOp.and IntKind.u64 x (6148914691236517205:Int))) (3689348814741910323:Int)))) (1085102592571150095:Int)+(bits BinOp.and IntKind.u64 (IntKind.u64.wrap ((IntKind.u64.wrap (bits BinOp.and IntKind.u64 ((IntKind.u64.wrap (bits BinOp.and IntKind.u64 (x.fdiv (2:Int)) (6148914691236517205:Int)+bits BinOp.and IntKind.u64 x (6148914691236517205:Int))).fdiv (4:Int)) (3689348814741910323:Int)+bits BinOp.and IntKind.u64 (IntKind.u64.wrap (bits BinOp.and IntKind.u64 (x.fdiv (2:Int)) (6148914691236517205:Int)+bits BinOp.and IntKind.u64 x (6148914691236517205:Int))) (3689348814741910323:Int))).fdiv (16:Int)+IntKind.u64.wrap (bits BinOp.and IntKind.u64 ((IntKind.u64.wrap (bits BinOp.and IntKind.u64 (x.fdiv (2:Int)) (6148914691236517205:Int)+bits BinOp.and IntKind.u64 x (6148914691236517205:Int))).fdiv (4:Int)) (3689348814741910323:Int)+bits BinOp.and IntKind.u64 (IntKind.u64.wrap (bits BinOp.and IntKind.u64 (x.fdiv (2:Int)) (6148914691236517205:Int)+bits BinOp.and IntKind.u64 x (6148914691236517205:Int))) (3689348814741910323:Int)))) (1085102592571150095:Int)).fdiv (256:Int))+(IntKind.u64.wrap (bits BinOp.and IntKind.u64 (IntKind.u64.wrap ((IntKind.u64.wrap (bits BinOp.and IntKind.u64 ((IntKind.u64.wrap (bits BinOp.and IntKind.u64 (x.fdiv (2:Int)) (6148914691236517205:Int)+bits BinOp.and IntKind.u64 x (6148914691236517205:Int))).fdiv (4:Int)) (3689348814741910323:Int)+bits BinOp.and IntKind.u64 (IntKind.u64.wrap (bits BinOp.and IntKind.u64 (x.fdiv (2:Int)) (6148914691236517205:Int)+bits BinOp.and IntKind.u64 x (6148914691236517205:Int))) (3689348814741910323:Int))).fdiv (16:Int)+IntKind.u64.wrap (bits BinOp.and IntKind.u64 ((IntKind.u64.wrap (bits BinOp.and IntKind.u64 (x.fdiv (2:Int)) (6148914691236517205:Int)+bits BinOp.and IntKind.u64 x (6148914691236517205:Int))).fdiv (4:Int)) (3689348814741910323:Int)+bits BinOp.and IntKind.u64 (IntKind.u64.wrap (bits BinOp.and IntKind.u64 (x.fdiv (2:Int)) (6148914691236517205:Int)+bits BinOp.and IntKind.u64 x (6148914691236517205:Int))) (3689348814741910323:Int)))) (1085102592571150095:Int)+(bits BinOp.and IntKind.u64 (IntKind.u64.wrap ((IntKind.u64.wrap (bits BinOp.and IntKind.u64 ((IntKind.u64.wrap (bits BinOp.and IntKind.u64 (x.fdiv (2:Int)) (6148914691236517205:Int)+bits BinOp.and IntKind.u64 x (6148914691236517205:Int))).fdiv (4:Int)) (3689348814741910323:Int)+bits BinOp.and IntKind.u64 (IntKind.u64.wrap (bits BinOp.and IntKind.u64 (x.fdiv (2:Int)) (6148914691236517205:Int)+bits BinOp.and IntKind.u64 x (6148914691236517205:Int))) (3689348814741910323:Int))).fdiv (16:Int)+IntKind.u64.wrap (bits BinOp.and IntKind.u64 ((IntKind.u64.wrap (bits BinOp.and IntKind.u64 (x.fdiv (2:Int)) (6148914691236517205:Int)+bits BinOp.and IntKind.u64 x (6148914691236517205:Int))).fdiv (4:Int)) (3689348814741910323:Int)+bits BinOp.and IntKind.u64 (IntKind.u64.wrap (bits BinOp.and IntKind.u64 (x.fdiv (2:Int)) (6148914691236517205:Int)+bits BinOp.and IntKind.u64 x (6148914691236517205:Int))) (3689348814741910323:Int)))) (1085102592571150095:Int)).fdiv (256:Int))).fdiv (65536:Int))+(IntKind.u64.wrap (IntKind.u64.wrap (bits BinOp.and IntKind.u64 (IntKind.u64.wrap ((IntKind.u64.wrap (bits BinOp.and IntKind.u64 ((IntKind.u64.wrap (bits BinOp.and IntKind.u64 (x.fdiv (2:Int)) (6148914691236517205:Int)+bits BinOp.and IntKind.u64 x (6148914691236517205:Int))).fdiv (4:Int)) (3689348814741910323:Int)+bits BinOp.and IntKind.u64 (IntKind.u64.wrap (bits BinOp.and IntKind.u64 (x.fdiv (2:Int)) (6148914691236517205:Int)+bits BinOp.and IntKind.u64 x (6148914691236517205:Int))) (3689348814741910323:Int))).fdiv (16:Int)+IntKind.u64.wrap (bits BinOp.and IntKind.u64 ((IntKind.u64.wrap (bits BinOp.and IntKind.u64 (x.fdiv (2:Int)) (6148914691236517205:Int)+bits BinOp.and IntKind.u64 x (6148914691236517205:Int))).fdiv (4:Int)) (3689348814741910323:Int)+bits BinOp.and IntKind.u64 (IntKind.u64.wrap (bits BinOp.and IntKind.u64 (x.fdiv (2:Int)) (6148914691236517205:Int)+bits BinOp.and IntKind.u64 x (6148914691236517205:Int))) (3689348814741910323:Int)))) (1085102592571150095:Int)+(bits BinOp.and IntKind.u64 (IntKind.u64.wrap ((IntKind.u64.wrap (bits BinOp.and IntKind.u64 ((IntKind.u64.wrap (bits BinOp.and IntKind.u64 (x.fdiv (2:Int)) (6148914691236517205:Int)+bits BinOp.and IntKind.u64 x (6148914691236517205:Int))).fdiv (4:Int)) (3689348814741910323:Int)+bits BinOp.and IntKind.u64 (IntKind.u64.wrap (bits BinOp.and IntKind.u64 (x.fdiv (2:Int)) (6148914691236517205:Int)+bits BinOp.and IntKind.u64 x (6148914691236517205:Int))) (3689348814741910323:Int))).fdiv (16:Int)+IntKind.u64.wrap (bits BinOp.and IntKind.u64 ((IntKind.u64.wrap (bits BinOp.and IntKind.u64 (x.fdiv (2:Int)) (6148914691236517205:Int)+bits BinOp.and IntKind.u64 x (6148914691236517205:Int))).fdiv (4:Int)) (3689348814741910323:Int)+bits BinOp.and IntKind.u64 (IntKind.u64.wrap (bits BinOp.and IntKind.u64 (x.fdiv (2:Int)) (6148914691236517205:Int)+bits BinOp.and IntKind.u64 x (6148914691236517205:Int))) (3689348814741910323:Int)))) (1085102592571150095:Int)).fdiv (256:Int))+(IntKind.u64.wrap (bits BinOp.and IntKind.u64 (IntKind.u64.wrap ((IntKind.u64.wrap (bits BinOp.and IntKind.u64 ((IntKind.u64.wrap (bits BinOp.and IntKind.u64 (x.fdiv (2:Int)) (6148914691236517205:Int)+bits BinOp.and IntKind.u64 x (6148914691236517205:Int))).fdiv (4:Int)) (3689348814741910323:Int)+bits BinOp.and IntKind.u64 (IntKind.u64.wrap (bits BinOp.and IntKind.u64 (x.fdiv (2:Int)) (6148914691236517205:Int)+bits BinOp.and IntKind.u64 x (6148914691236517205:Int))) (3689348814741910323:Int))).fdiv (16:Int)+IntKind.u64.wrap (bits BinOp.and IntKind.u64 ((IntKind.u64.wrap (bits BinOp.and IntKind.u64 (x.fdiv (2:Int)) (6148914691236517205:Int)+bits BinOp.and IntKind.u64 x (6148914691236517205:Int))).fdiv (4:Int)) (3689348814741910323:Int)+bits BinOp.and IntKind.u64 (IntKind.u64.wrap (bits BinOp.and IntKind.u64 (x.fdiv (2:Int)) (6148914691236517205:Int)+bits BinOp.and IntKind.u64 x (6148914691236517205:Int))) (3689348814741910323:Int)))) (1085102592571150095:Int)+(bits BinOp.and IntKind.u64 (IntKind.u64.wrap ((IntKind.u64.wrap (bits BinOp.and IntKind.u64 ((IntKind.u64.wrap (bits BinOp.and IntKind.u64 (x.fdiv (2:Int)) (6148914691236517205:Int)+bits BinOp.and IntKind.u64 x (6148914691236517205:Int))).fdiv (4:Int)) (3689348814741910323:Int)+bits BinOp.and IntKind.u64 (IntKind.u64.wrap (bits BinOp.and IntKind.u64 (x.fdiv (2:Int)) (6148914691236517205:Int)+bits BinOp.and IntKind.u64 x (6148914691236517205:Int))) (3689348814741910323:Int))).fdiv (16:Int)+IntKind.u64.wrap (bits BinOp.and IntKind.u64 ((IntKind.u64.wrap (bits BinOp.and IntKind.u64 (x.fdiv (2:Int)) (6148914691236517205:Int)+bits BinOp.and IntKind.u64 x (6148914691236517205:Int))).fdiv (4:Int)) (3689348814741910323:Int)+bits BinOp.and IntKind.u64 (IntKind.u64.wrap (bits BinOp.and IntKind.u64 (x.fdiv (2:Int)) (6148914691236517205:Int)+bits BinOp.and IntKind.u64 x (6148914691236517205:Int))) (3689348814741910323:Int)))) (1085102592571150095:Int)).fdiv (256:Int))).fdiv (65536:Int))).fdiv (4294967296:Int)))) (127:Int)),True):=by kernel_rfl
def popE (x : Int) : Int:=(bits BinOp.and IntKind.i64 (IntKind.i64.wrap (IntKind.u64.wrap (IntKind.u64.wrap (IntKind.u64.wrap (bits BinOp.and IntKind.u64 (IntKind.u64.wrap ((IntKind.u64.wrap (bits BinOp.and IntKind.u64 ((IntKind.u64.wrap (bits BinOp.and IntKind.u64 (x.fdiv (2 : Int)) (6148914691236517205 : Int) + bits BinOp.and IntKind.u64 x (6148914691236517205 : Int))).fdiv (4 : Int)) (3689348814741910323 : Int) + bits BinOp.and IntKind.u64 (IntKind.u64.wrap (bits BinOp.and IntKind.u64 (x.fdiv (2 : Int)) (6148914691236517205 : Int) + bits BinOp.and IntKind.u64 x (6148914691236517205 : Int))) (3689348814741910323 : Int))).fdiv (16 : Int) + IntKind.u64.wrap (bits BinOp.and IntKind.u64 ((IntKind.u64.wrap (bits BinOp.and IntKind.u64 (x.fdiv (2 : Int)) (6148914691236517205 : Int) + bits BinOp.and IntKind.u64 x (6148914691236517205 : Int))).fdiv (4 : Int)) (3689348814741910323 : Int) + bits BinOp.and IntKind.u64 (IntKind.u64.wrap (bits BinOp.and IntKind.u64 (x.fdiv (2 : Int)) (6148914691236517205 : Int) + bits BinOp.and IntKind.u64 x (6148914691236517205 : Int))) (3689348814741910323 : Int)))) (1085102592571150095 : Int) + (bits BinOp.and IntKind.u64 (IntKind.u64.wrap ((IntKind.u64.wrap (bits BinOp.and IntKind.u64 ((IntKind.u64.wrap (bits BinOp.and IntKind.u64 (x.fdiv (2 : Int)) (6148914691236517205 : Int) + bits BinOp.and IntKind.u64 x (6148914691236517205 : Int))).fdiv (4 : Int)) (3689348814741910323 : Int) + bits BinOp.and IntKind.u64 (IntKind.u64.wrap (bits BinOp.and IntKind.u64 (x.fdiv (2 : Int)) (6148914691236517205 : Int) + bits BinOp.and IntKind.u64 x (6148914691236517205 : Int))) (3689348814741910323 : Int))).fdiv (16 : Int) + IntKind.u64.wrap (bits BinOp.and IntKind.u64 ((IntKind.u64.wrap (bits BinOp.and IntKind.u64 (x.fdiv (2 : Int)) (6148914691236517205 : Int) + bits BinOp.and IntKind.u64 x (6148914691236517205 : Int))).fdiv (4 : Int)) (3689348814741910323 : Int) + bits BinOp.and IntKind.u64 (IntKind.u64.wrap (bits BinOp.and IntKind.u64 (x.fdiv (2 : Int)) (6148914691236517205 : Int) + bits BinOp.and IntKind.u64 x (6148914691236517205 : Int))) (3689348814741910323 : Int)))) (1085102592571150095 : Int)).fdiv (256 : Int)) + (IntKind.u64.wrap (bits BinOp.and IntKind.u64 (IntKind.u64.wrap ((IntKind.u64.wrap (bits BinOp.and IntKind.u64 ((IntKind.u64.wrap (bits BinOp.and IntKind.u64 (x.fdiv (2 : Int)) (6148914691236517205 : Int) + bits BinOp.and IntKind.u64 x (6148914691236517205 : Int))).fdiv (4 : Int)) (3689348814741910323 : Int) + bits BinOp.and IntKind.u64 (IntKind.u64.wrap (bits BinOp.and IntKind.u64 (x.fdiv (2 : Int)) (6148914691236517205 : Int) + bits BinOp.and IntKind.u64 x (6148914691236517205 : Int))) (3689348814741910323 : Int))).fdiv (16 : Int) + IntKind.u64.wrap (bits BinOp.and IntKind.u64 ((IntKind.u64.wrap (bits BinOp.and IntKind.u64 (x.fdiv (2 : Int)) (6148914691236517205 : Int) + bits BinOp.and IntKind.u64 x (6148914691236517205 : Int))).fdiv (4 : Int)) (3689348814741910323 : Int) + bits BinOp.and IntKind.u64 (IntKind.u64.wrap (bits BinOp.and IntKind.u64 (x.fdiv (2 : Int)) (6148914691236517205 : Int) + bits BinOp.and IntKind.u64 x (6148914691236517205 : Int))) (3689348814741910323 : Int)))) (1085102592571150095 : Int) + (bits BinOp.and IntKind.u64 (IntKind.u64.wrap ((IntKind.u64.wrap (bits BinOp.and IntKind.u64 ((IntKind.u64.wrap (bits BinOp.and IntKind.u64 (x.fdiv (2 : Int)) (6148914691236517205 : Int) + bits BinOp.and IntKind.u64 x (6148914691236517205 : Int))).fdiv (4 : Int)) (3689348814741910323 : Int) + bits BinOp.and IntKind.u64 (IntKind.u64.wrap (bits BinOp.and IntKind.u64 (x.fdiv (2 : Int)) (6148914691236517205 : Int) + bits BinOp.and IntKind.u64 x (6148914691236517205 : Int))) (3689348814741910323 : Int))).fdiv (16 : Int) + IntKind.u64.wrap (bits BinOp.and IntKind.u64 ((IntKind.u64.wrap (bits BinOp.and IntKind.u64 (x.fdiv (2 : Int)) (6148914691236517205 : Int) + bits BinOp.and IntKind.u64 x (6148914691236517205 : Int))).fdiv (4 : Int)) (3689348814741910323 : Int) + bits BinOp.and IntKind.u64 (IntKind.u64.wrap (bits BinOp.and IntKind.u64 (x.fdiv (2 : Int)) (6148914691236517205 : Int) + bits BinOp.and IntKind.u64 x (6148914691236517205 : Int))) (3689348814741910323 : Int)))) (1085102592571150095 : Int)).fdiv (256 : Int))).fdiv (65536 : Int)) + (IntKind.u64.wrap (IntKind.u64.wrap (bits BinOp.and IntKind.u64 (IntKind.u64.wrap ((IntKind.u64.wrap (bits BinOp.and IntKind.u64 ((IntKind.u64.wrap (bits BinOp.and IntKind.u64 (x.fdiv (2 : Int)) (6148914691236517205 : Int) + bits BinOp.and IntKind.u64 x (6148914691236517205 : Int))).fdiv (4 : Int)) (3689348814741910323 : Int) + bits BinOp.and IntKind.u64 (IntKind.u64.wrap (bits BinOp.and IntKind.u64 (x.fdiv (2 : Int)) (6148914691236517205 : Int) + bits BinOp.and IntKind.u64 x (6148914691236517205 : Int))) (3689348814741910323 : Int))).fdiv (16 : Int) + IntKind.u64.wrap (bits BinOp.and IntKind.u64 ((IntKind.u64.wrap (bits BinOp.and IntKind.u64 (x.fdiv (2 : Int)) (6148914691236517205 : Int) + bits BinOp.and IntKind.u64 x (6148914691236517205 : Int))).fdiv (4 : Int)) (3689348814741910323 : Int) + bits BinOp.and IntKind.u64 (IntKind.u64.wrap (bits BinOp.and IntKind.u64 (x.fdiv (2 : Int)) (6148914691236517205 : Int) + bits BinOp.and IntKind.u64 x (6148914691236517205 : Int))) (3689348814741910323 : Int)))) (1085102592571150095 : Int) + (bits BinOp.and IntKind.u64 (IntKind.u64.wrap ((IntKind.u64.wrap (bits BinOp.and IntKind.u64 ((IntKind.u64.wrap (bits BinOp.and IntKind.u64 (x.fdiv (2 : Int)) (6148914691236517205 : Int) + bits BinOp.and IntKind.u64 x (6148914691236517205 : Int))).fdiv (4 : Int)) (3689348814741910323 : Int) + bits BinOp.and IntKind.u64 (IntKind.u64.wrap (bits BinOp.and IntKind.u64 (x.fdiv (2 : Int)) (6148914691236517205 : Int) + bits BinOp.and IntKind.u64 x (6148914691236517205 : Int))) (3689348814741910323 : Int))).fdiv (16 : Int) + IntKind.u64.wrap (bits BinOp.and IntKind.u64 ((IntKind.u64.wrap (bits BinOp.and IntKind.u64 (x.fdiv (2 : Int)) (6148914691236517205 : Int) + bits BinOp.and IntKind.u64 x (6148914691236517205 : Int))).fdiv (4 : Int)) (3689348814741910323 : Int) + bits BinOp.and IntKind.u64 (IntKind.u64.wrap (bits BinOp.and IntKind.u64 (x.fdiv (2 : Int)) (6148914691236517205 : Int) + bits BinOp.and IntKind.u64 x (6148914691236517205 : Int))) (3689348814741910323 : Int)))) (1085102592571150095 : Int)).fdiv (256 : Int)) + (IntKind.u64.wrap (bits BinOp.and IntKind.u64 (IntKind.u64.wrap ((IntKind.u64.wrap (bits BinOp.and IntKind.u64 ((IntKind.u64.wrap (bits BinOp.and IntKind.u64 (x.fdiv (2 : Int)) (6148914691236517205 : Int) + bits BinOp.and IntKind.u64 x (6148914691236517205 : Int))).fdiv (4 : Int)) (3689348814741910323 : Int) + bits BinOp.and IntKind.u64 (IntKind.u64.wrap (bits BinOp.and IntKind.u64 (x.fdiv (2 : Int)) (6148914691236517205 : Int) + bits BinOp.and IntKind.u64 x (6148914691236517205 : Int))) (3689348814741910323 : Int))).fdiv (16 : Int) + IntKind.u64.wrap (bits BinOp.and IntKind.u64 ((IntKind.u64.wrap (bits BinOp.and IntKind.u64 (x.fdiv (2 : Int)) (6148914691236517205 : Int) + bits BinOp.and IntKind.u64 x (6148914691236517205 : Int))).fdiv (4 : Int)) (3689348814741910323 : Int) + bits BinOp.and IntKind.u64 (IntKind.u64.wrap (bits BinOp.and IntKind.u64 (x.fdiv (2 : Int)) (6148914691236517205 : Int) + bits BinOp.and IntKind.u64 x (6148914691236517205 : Int))) (3689348814741910323 : Int)))) (1085102592571150095 : Int) + (bits BinOp.and IntKind.u64 (IntKind.u64.wrap ((IntKind.u64.wrap (bits BinOp.and IntKind.u64 ((IntKind.u64.wrap (bits BinOp.and IntKind.u64 (x.fdiv (2 : Int)) (6148914691236517205 : Int) + bits BinOp.and IntKind.u64 x (6148914691236517205 : Int))).fdiv (4 : Int)) (3689348814741910323 : Int) + bits BinOp.and IntKind.u64 (IntKind.u64.wrap (bits BinOp.and IntKind.u64 (x.fdiv (2 : Int)) (6148914691236517205 : Int) + bits BinOp.and IntKind.u64 x (6148914691236517205 : Int))) (3689348814741910323 : Int))).fdiv (16 : Int) + IntKind.u64.wrap (bits BinOp.and IntKind.u64 ((IntKind.u64.wrap (bits BinOp.and IntKind.u64 (x.fdiv (2 : Int)) (6148914691236517205 : Int) + bits BinOp.and IntKind.u64 x (6148914691236517205 : Int))).fdiv (4 : Int)) (3689348814741910323 : Int) + bits BinOp.and IntKind.u64 (IntKind.u64.wrap (bits BinOp.and IntKind.u64 (x.fdiv (2 : Int)) (6148914691236517205 : Int) + bits BinOp.and IntKind.u64 x (6148914691236517205 : Int))) (3689348814741910323 : Int)))) (1085102592571150095 : Int)).fdiv (256 : Int))).fdiv (65536 : Int))).fdiv (4294967296 : Int)))) (127 : Int))
def popN (x : Int) : Nat:=(popE x).toNat
theorem popE_nn (x : Int) : popE x = (popN x : Int):=by
 unfold popN
 have h : 0 ≤ popE x:=by
  unfold popE
  generalize IntKind.i64.wrap _ = a
  show 0 ≤ IntKind.i64.wrap ((BitVec.ofInt 64 a &&& BitVec.ofInt 64 127).toNat : Int)
  have hb : (BitVec.ofInt 64 a &&& BitVec.ofInt 64 127).toNat ≤ 127:=by
   rw [BitVec.toNat_and]
   exact Nat.and_le_right
  rw [wrap_i64 (by omega) (by omega)]
  omega
 omega
theorem pop_con (x : Int) : ConOk Try.prog 102 3 (Con.pure [.int .u64 x] (.int .i64 (popN x : Nat))):=by
 have hr:=oc_x x
 rw [show (Value.int .i64 (popN x : Nat)) = .int .i64 (popE x) by rw [popE_nn]]
 exact pure_run (d:=1) (run_ok (L:=100) ar_names (noBase_ok _) (noLoop_ok _) 5) (T:=[]) (v:=.int .i64 (popE x)) hr trivial rfl rfl
end Go.Proofs.Ytliidiceljdgmaa
namespace Go.Proofs.Ytliidiceljdgmaa
open Go.RowKit
open Sy
set_option maxRecDepth 100000
def v64 (ws : List Nat) : List Value:=ws.map fun w => .int .u64 (w : Nat)
def mpW (rw : Bool) (m : Nat) (ws : List Nat) : Sy.Heap:=[(66,⟨false,none,[.int .i64 (m : Nat),.slice (some ⟨65,0,none⟩) ws.length (big + 65)],none⟩),(65,⟨rw,some (65,1),v64 ws,none⟩)]
def selPop (r : Int → Nat) : SelC:=fun f args _ => bif Nat.beq f 102 then (match args with | [.int .u64 x] => some (Con.pure [.int .u64 x] (.int .i64 (r x : Nat)),[],True) | _ => none) else none
theorem cw_a (r : Int → Nat) (x y : Int) (m : Nat) (ws : List Nat) : evF Try.prog (baseC 3 (selPop r)) noLoop 100 40 83 [Value.pointer (some ⟨66,0,none⟩),.int .i64 x,.int .i64 y] ⟨68,mpW true m ws,[(65,ws.length)],0,[(0,false),(1,false),(2,true),(3,false),(4,false)],0,True⟩ = some (Value.int .i64 (IntKind.i64.wrap ((0:Int)+(↑(r (bits BinOp.and IntKind.u64 (intOf' (getD' undef (v64 ws) (0+(IntKind.i64.wrap ((if (0:Int) > x then (0:Int) else x).tdiv (64:Int))).toNat * 1))) (IntKind.u64.wrap (Int.fdiv (18446744073709551615:Int) ((2:Int) ^ min (IntKind.i64.wrap ((64:Int) - IntKind.i64.wrap ((if (64:Int) < IntKind.i64.wrap ((if (↑m:Int) < y then (↑m:Int) else y) - IntKind.i64.wrap (IntKind.i64.wrap ((if (0:Int) > x then (0:Int) else x).tdiv (64:Int)) * (64:Int))) then (64:Int) else IntKind.i64.wrap ((if (↑m:Int) < y then (↑m:Int) else y) - IntKind.i64.wrap (IntKind.i64.wrap ((if (0:Int) > x then (0:Int) else x).tdiv (64:Int)) * (64:Int)))) - if (0:Int) > IntKind.i64.wrap ((if (0:Int) > x then (0:Int) else x) - IntKind.i64.wrap (IntKind.i64.wrap ((if (0:Int) > x then (0:Int) else x).tdiv (64:Int)) * (64:Int))) then (0:Int) else IntKind.i64.wrap ((if (0:Int) > x then (0:Int) else x) - IntKind.i64.wrap (IntKind.i64.wrap ((if (0:Int) > x then (0:Int) else x).tdiv (64:Int)) * (64:Int)))))).toNat 64) * (2:Int) ^ min (if (0:Int) > IntKind.i64.wrap ((if (0:Int) > x then (0:Int) else x) - IntKind.i64.wrap (IntKind.i64.wrap ((if (0:Int) > x then (0:Int) else x).tdiv (64:Int)) * (64:Int))) then (0:Int) else IntKind.i64.wrap ((if (0:Int) > x then (0:Int) else x) - IntKind.i64.wrap (IntKind.i64.wrap ((if (0:Int) > x then (0:Int) else x).tdiv (64:Int)) * (64:Int)))).toNat 64)))):Int))),{ n:=68,h:=[(66,⟨false,none,[Value.int .i64 (↑m),.slice (some ⟨65,0,none⟩) ws.length 9223372036854775873],none⟩),(65,⟨true,some (65,1),setAt (0+(IntKind.i64.wrap ((if (0:Int) > x then (0:Int) else x).tdiv (64:Int))).toNat * 1) [Value.int .u64 (bits BinOp.andNot IntKind.u64 (intOf' (getD' undef (v64 ws) (0+(IntKind.i64.wrap ((if (0:Int) > x then (0:Int) else x).tdiv (64:Int))).toNat * 1))) (IntKind.u64.wrap (Int.fdiv (18446744073709551615:Int) ((2:Int) ^ min (IntKind.i64.wrap ((64:Int) - IntKind.i64.wrap ((if (64:Int) < IntKind.i64.wrap ((if (↑m:Int) < y then (↑m:Int) else y) - IntKind.i64.wrap (IntKind.i64.wrap ((if (0:Int) > x then (0:Int) else x).tdiv (64:Int)) * (64:Int))) then (64:Int) else IntKind.i64.wrap ((if (↑m:Int) < y then (↑m:Int) else y) - IntKind.i64.wrap (IntKind.i64.wrap ((if (0:Int) > x then (0:Int) else x).tdiv (64:Int)) * (64:Int)))) - if (0:Int) > IntKind.i64.wrap ((if (0:Int) > x then (0:Int) else x) - IntKind.i64.wrap (IntKind.i64.wrap ((if (0:Int) > x then (0:Int) else x).tdiv (64:Int)) * (64:Int))) then (0:Int) else IntKind.i64.wrap ((if (0:Int) > x then (0:Int) else x) - IntKind.i64.wrap (IntKind.i64.wrap ((if (0:Int) > x then (0:Int) else x).tdiv (64:Int)) * (64:Int)))))).toNat 64) * (2:Int) ^ min (if (0:Int) > IntKind.i64.wrap ((if (0:Int) > x then (0:Int) else x) - IntKind.i64.wrap (IntKind.i64.wrap ((if (0:Int) > x then (0:Int) else x).tdiv (64:Int)) * (64:Int))) then (0:Int) else IntKind.i64.wrap ((if (0:Int) > x then (0:Int) else x) - IntKind.i64.wrap (IntKind.i64.wrap ((if (0:Int) > x then (0:Int) else x).tdiv (64:Int)) * (64:Int)))).toNat 64)))] (v64 ws),none⟩)],lo:=[(65,ws.length)],esc:=0,T:=[],k:=5,O:=(bif hasN (0+(IntKind.i64.wrap ((if (0:Int) > x then (0:Int) else x).tdiv (64:Int))).toNat * 1+1) (v64 ws) && true && true then bif decide ((0:Int) ≤ IntKind.i64.wrap ((if (0:Int) > x then (0:Int) else x).tdiv (64:Int))) && decide (IntKind.i64.wrap ((if (0:Int) > x then (0:Int) else x).tdiv (64:Int)) < (↑ws.length:Int)) then bif hasN (0+(IntKind.i64.wrap ((if (0:Int) > x then (0:Int) else x).tdiv (64:Int))).toNat * 1+1) (v64 ws) && isLikeL [Value.int .u64 0] (v64 ws) (0+(IntKind.i64.wrap ((if (0:Int) > x then (0:Int) else x).tdiv (64:Int))).toNat * 1) then bif decide ((0:Int) ≤ IntKind.i64.wrap ((if (0:Int) > x then (0:Int) else x).tdiv (64:Int))) && decide (IntKind.i64.wrap ((if (0:Int) > x then (0:Int) else x).tdiv (64:Int)) < (↑ws.length:Int)) then (bif hasN (0+(IntKind.i64.wrap ((if (0:Int) > x then (0:Int) else x).tdiv (64:Int))).toNat * 1+1) (v64 ws) && isLikeL [Value.int .u64 0] (v64 ws) (0+(IntKind.i64.wrap ((if (0:Int) > x then (0:Int) else x).tdiv (64:Int))).toNat * 1) then bif decide ((0:Int) ≤ IntKind.i64.wrap ((if (0:Int) > x then (0:Int) else x).tdiv (64:Int))) && decide (IntKind.i64.wrap ((if (0:Int) > x then (0:Int) else x).tdiv (64:Int)) < (↑ws.length:Int)) then bif decide ((0:Int) ≤ if (0:Int) > IntKind.i64.wrap ((if (0:Int) > x then (0:Int) else x) - IntKind.i64.wrap (IntKind.i64.wrap ((if (0:Int) > x then (0:Int) else x).tdiv (64:Int)) * (64:Int))) then (0:Int) else IntKind.i64.wrap ((if (0:Int) > x then (0:Int) else x) - IntKind.i64.wrap (IntKind.i64.wrap ((if (0:Int) > x then (0:Int) else x).tdiv (64:Int)) * (64:Int)))) then bif decide ((0:Int) ≤ IntKind.i64.wrap ((64:Int) - IntKind.i64.wrap ((if (64:Int) < IntKind.i64.wrap ((if (↑m:Int) < y then (↑m:Int) else y) - IntKind.i64.wrap (IntKind.i64.wrap ((if (0:Int) > x then (0:Int) else x).tdiv (64:Int)) * (64:Int))) then (64:Int) else IntKind.i64.wrap ((if (↑m:Int) < y then (↑m:Int) else y) - IntKind.i64.wrap (IntKind.i64.wrap ((if (0:Int) > x then (0:Int) else x).tdiv (64:Int)) * (64:Int)))) - if (0:Int) > IntKind.i64.wrap ((if (0:Int) > x then (0:Int) else x) - IntKind.i64.wrap (IntKind.i64.wrap ((if (0:Int) > x then (0:Int) else x).tdiv (64:Int)) * (64:Int))) then (0:Int) else IntKind.i64.wrap ((if (0:Int) > x then (0:Int) else x) - IntKind.i64.wrap (IntKind.i64.wrap ((if (0:Int) > x then (0:Int) else x).tdiv (64:Int)) * (64:Int)))))) then (((True∧rr false)∧decide ((if (0:Int) > x then (0:Int) else x) ≥ if (↑m:Int) < y then (↑m:Int) else y) = false)∧decide (IntKind.i64.wrap (IntKind.i64.wrap ((if (0:Int) > x then (0:Int) else x).tdiv (64:Int)) * (64:Int)) < if (↑m:Int) < y then (↑m:Int) else y) = true)∧decide ((if (0:Int) > IntKind.i64.wrap ((if (0:Int) > x then (0:Int) else x) - IntKind.i64.wrap (IntKind.i64.wrap ((if (0:Int) > x then (0:Int) else x).tdiv (64:Int)) * (64:Int))) then (0:Int) else IntKind.i64.wrap ((if (0:Int) > x then (0:Int) else x) - IntKind.i64.wrap (IntKind.i64.wrap ((if (0:Int) > x then (0:Int) else x).tdiv (64:Int)) * (64:Int)))) ≥ if (64:Int) < IntKind.i64.wrap ((if (↑m:Int) < y then (↑m:Int) else y) - IntKind.i64.wrap (IntKind.i64.wrap ((if (0:Int) > x then (0:Int) else x).tdiv (64:Int)) * (64:Int))) then (64:Int) else IntKind.i64.wrap ((if (↑m:Int) < y then (↑m:Int) else y) - IntKind.i64.wrap (IntKind.i64.wrap ((if (0:Int) > x then (0:Int) else x).tdiv (64:Int)) * (64:Int)))) = false else False else False else False else False)∧True∧(rr (Value.int .u64 (bits BinOp.and IntKind.u64 (intOf' (getD' undef (v64 ws) (0+(IntKind.i64.wrap ((if (0:Int) > x then (0:Int) else x).tdiv (64:Int))).toNat * 1))) (IntKind.u64.wrap (Int.fdiv (18446744073709551615:Int) ((2:Int) ^ min (IntKind.i64.wrap ((64:Int) - IntKind.i64.wrap ((if (64:Int) < IntKind.i64.wrap ((if (↑m:Int) < y then (↑m:Int) else y) - IntKind.i64.wrap (IntKind.i64.wrap ((if (0:Int) > x then (0:Int) else x).tdiv (64:Int)) * (64:Int))) then (64:Int) else IntKind.i64.wrap ((if (↑m:Int) < y then (↑m:Int) else y) - IntKind.i64.wrap (IntKind.i64.wrap ((if (0:Int) > x then (0:Int) else x).tdiv (64:Int)) * (64:Int)))) - if (0:Int) > IntKind.i64.wrap ((if (0:Int) > x then (0:Int) else x) - IntKind.i64.wrap (IntKind.i64.wrap ((if (0:Int) > x then (0:Int) else x).tdiv (64:Int)) * (64:Int))) then (0:Int) else IntKind.i64.wrap ((if (0:Int) > x then (0:Int) else x) - IntKind.i64.wrap (IntKind.i64.wrap ((if (0:Int) > x then (0:Int) else x).tdiv (64:Int)) * (64:Int)))))).toNat 64) * (2:Int) ^ min (if (0:Int) > IntKind.i64.wrap ((if (0:Int) > x then (0:Int) else x) - IntKind.i64.wrap (IntKind.i64.wrap ((if (0:Int) > x then (0:Int) else x).tdiv (64:Int)) * (64:Int))) then (0:Int) else IntKind.i64.wrap ((if (0:Int) > x then (0:Int) else x) - IntKind.i64.wrap (IntKind.i64.wrap ((if (0:Int) > x then (0:Int) else x).tdiv (64:Int)) * (64:Int)))).toNat 64))))∧True)∧True∧True else False else False else False else False)∧decide (IntKind.i64.wrap (IntKind.i64.wrap (IntKind.i64.wrap ((if (0:Int) > x then (0:Int) else x).tdiv (64:Int))+(1:Int)) * (64:Int)) < if (↑m:Int) < y then (↑m:Int) else y) = false : St }):=by kernel_rfl
theorem pw_t (r : Int → Nat) (x : Int) (m : Nat) (ws : List Nat) : evF Try.prog (baseC 3 (selPop r)) noLoop 100 40 63 [Value.pointer (some ⟨66,0,none⟩),.int .i64 x,.bool true] ⟨68,mpW true m ws,[(65,ws.length)],0,[(0,true),(1,true),(2,true),(3,true),(4,true),(5,true),(6,true),(7,true),(8,true),(9,true),(10,false),(11,true)],0,True⟩ = some (Value.bool true,{ n:=68,h:=[(66,⟨false,none,[Value.int .i64 (↑m),.slice (some ⟨65,0,none⟩) ws.length 9223372036854775873],none⟩),(65,⟨true,some (65,1),setAt (0+(IntKind.i64.wrap (x.tdiv (64:Int))).toNat * 1) [Value.int .u64 (bits BinOp.or IntKind.u64 (intOf' (getD' undef (v64 ws) (0+(IntKind.i64.wrap (x.tdiv (64:Int))).toNat * 1))) (IntKind.u64.wrap ((1:Int) * (2:Int) ^ min (x.tmod (64:Int)).toNat 64)))] (v64 ws),none⟩)],lo:=[(65,ws.length)],esc:=0,T:=[],k:=12,O:=bif hasN (0+(IntKind.i64.wrap (x.tdiv (64:Int))).toNat * 1+1) (v64 ws) && true && true then bif decide ((0:Int) ≤ IntKind.i64.wrap (x.tdiv (64:Int))) && decide (IntKind.i64.wrap (x.tdiv (64:Int)) < (↑ws.length:Int)) then bif hasN (0+(IntKind.i64.wrap (x.tdiv (64:Int))).toNat * 1+1) (v64 ws) && isLikeL [Value.int .u64 0] (v64 ws) (0+(IntKind.i64.wrap (x.tdiv (64:Int))).toNat * 1) then bif decide ((0:Int) ≤ IntKind.i64.wrap (x.tdiv (64:Int))) && decide (IntKind.i64.wrap (x.tdiv (64:Int)) < (↑ws.length:Int)) then (bif decide ((0:Int) ≤ x.tmod (64:Int)) then ((((((((((True∧tt)∧tt)∧tt)∧decide (x ≥ (0:Int)) = true)∧decide (x ≥ (0:Int)) = true)∧decide (x ≥ (0:Int)) = true)∧decide (x ≥ (0:Int)) = true)∧decide (x ≥ (0:Int)) = true)∧decide (x ≥ (0:Int)) = true)∧decide (x ≥ (0:Int)) = true)∧(!decide (x < (↑m:Int))) = false else False)∧true = true else False else False else False else False : St }):=by kernel_rfl
theorem pw_f (r : Int → Nat) (x : Int) (m : Nat) (ws : List Nat) : evF Try.prog (baseC 3 (selPop r)) noLoop 100 40 63 [Value.pointer (some ⟨66,0,none⟩),.int .i64 x,.bool false] ⟨68,mpW true m ws,[(65,ws.length)],0,[(0,true),(1,true),(2,true),(3,true),(4,true),(5,true),(6,true),(7,true),(8,true),(9,true),(10,false),(11,false)],0,True⟩ = some (Value.bool true,{ n:=68,h:=[(66,⟨false,none,[Value.int .i64 (↑m),.slice (some ⟨65,0,none⟩) ws.length 9223372036854775873],none⟩),(65,⟨true,some (65,1),setAt (0+(IntKind.i64.wrap (x.tdiv (64:Int))).toNat * 1) [Value.int .u64 (bits BinOp.andNot IntKind.u64 (intOf' (getD' undef (v64 ws) (0+(IntKind.i64.wrap (x.tdiv (64:Int))).toNat * 1))) (IntKind.u64.wrap ((1:Int) * (2:Int) ^ min (x.tmod (64:Int)).toNat 64)))] (v64 ws),none⟩)],lo:=[(65,ws.length)],esc:=0,T:=[],k:=12,O:=bif hasN (0+(IntKind.i64.wrap (x.tdiv (64:Int))).toNat * 1+1) (v64 ws) && true && true then bif decide ((0:Int) ≤ IntKind.i64.wrap (x.tdiv (64:Int))) && decide (IntKind.i64.wrap (x.tdiv (64:Int)) < (↑ws.length:Int)) then bif hasN (0+(IntKind.i64.wrap (x.tdiv (64:Int))).toNat * 1+1) (v64 ws) && isLikeL [Value.int .u64 0] (v64 ws) (0+(IntKind.i64.wrap (x.tdiv (64:Int))).toNat * 1) then bif decide ((0:Int) ≤ IntKind.i64.wrap (x.tdiv (64:Int))) && decide (IntKind.i64.wrap (x.tdiv (64:Int)) < (↑ws.length:Int)) then (bif decide ((0:Int) ≤ x.tmod (64:Int)) then ((((((((((True∧tt)∧tt)∧tt)∧decide (x ≥ (0:Int)) = true)∧decide (x ≥ (0:Int)) = true)∧decide (x ≥ (0:Int)) = true)∧decide (x ≥ (0:Int)) = true)∧decide (x ≥ (0:Int)) = true)∧decide (x ≥ (0:Int)) = true)∧decide (x ≥ (0:Int)) = true)∧(!decide (x < (↑m:Int))) = false else False)∧false = false else False else False else False else False : St }):=by kernel_rfl
theorem gw_a (r : Int → Nat) (x : Int) (m : Nat) (ws : List Nat) : obs (evF Try.prog (baseC 3 (selPop r)) noLoop 100 40 43 [Value.pointer (some ⟨66,0,none⟩),.int .i64 x] ⟨68,mpW false m ws,[(65,ws.length)],0,[(0,true),(1,true),(2,true),(3,true),(4,true),(5,true),(6,true),(7,true),(8,true),(9,true),(10,true),(11,true),(12,true),(13,true),(14,true),(15,true),(16,true),(17,true),(18,true),(19,true),(20,true),(21,true),(22,true),(23,true)],0,True⟩) = some (Value.bool (bits BinOp.and IntKind.u64 ((intOf' (getD' undef (v64 ws) (0+(IntKind.i64.wrap (x.tdiv (64:Int))).toNat * 1))).fdiv ((2:Int) ^ min (x.tmod (64:Int)).toNat 64)) (1:Int) == (1:Int)),(((bif decide ((0:Int) ≤ x.tmod (64:Int)) then (((bif hasN (0+(IntKind.i64.wrap (x.tdiv (64:Int))).toNat * 1+1) (v64 ws) && isLikeL [Value.int .u64 0] (v64 ws) (0+(IntKind.i64.wrap (x.tdiv (64:Int))).toNat * 1) then (bif decide ((0:Int) ≤ IntKind.i64.wrap (x.tdiv (64:Int))) && decide (IntKind.i64.wrap (x.tdiv (64:Int)) < (↑ws.length:Int)) then ((((((((((((((((True∧tt)∧tt)∧tt)∧decide (x ≥ (0:Int)) = true)∧decide (x ≥ (0:Int)) = true)∧decide (x ≥ (0:Int)) = true)∧decide (x ≥ (0:Int)) = true)∧decide (x ≥ (0:Int)) = true)∧decide (x ≥ (0:Int)) = true)∧decide (x ≥ (0:Int)) = true)∧decide (x < (↑m:Int)) = true)∧decide (x < (↑m:Int)) = true)∧decide (x < (↑m:Int)) = true)∧decide (x < (↑m:Int)) = true)∧decide (x < (↑m:Int)) = true)∧decide (x < (↑m:Int)) = true)∧decide (x < (↑m:Int)) = true else False)∧decide (x < (↑m:Int)) = true else False)∧decide (x < (↑m:Int)) = true)∧decide (x < (↑m:Int)) = true)∧decide (x < (↑m:Int)) = true else False)∧decide (x < (↑m:Int)) = true)∧decide (x < (↑m:Int)) = true)∧decide (x < (↑m:Int)) = true):=by kernel_rfl
end Go.Proofs.Ytliidiceljdgmaa
namespace Go.Proofs.Ytliidiceljdgmaa
open Go.RowKit
open Sy
set_option maxRecDepth 100000
def bn (f : Nat → Bool) : Nat → Nat
 | 0 => 0
 | n + 1 => (f 0).toNat + 2 * bn (fun i => f (i + 1)) n
theorem bn_bit : ∀ (n : Nat) (f : Nat → Bool) (i : Nat),(bn f n).testBit i = (decide (i < n) && f i)
 | 0,f,i => by simp [bn]
 | n + 1,f,0 => by
  simp only [rr, tt, bn,Nat.testBit_zero]
  cases f 0 <;> simp <;> omega
 | n + 1,f,i + 1 => by
  rw [Nat.testBit_succ]
  have : bn f (n + 1) / 2 = bn (fun i => f (i + 1)) n:=by
   simp only [rr, tt, bn]; cases f 0 <;> simp <;> omega
  rw [this,bn_bit n (fun i => f (i + 1)) i]
  simp
theorem bn_lt : ∀ (n : Nat) (f : Nat → Bool),bn f n < 2 ^ n
 | 0,f => by simp [bn]
 | n + 1,f => by
  have:=bn_lt n (fun i => f (i + 1))
  simp only [rr, tt, bn,Nat.pow_succ]
  cases f 0 <;> simp <;> omega
theorem bn_ext (f g : Nat → Bool) (n : Nat) (h : ∀ i,i < n → f i = g i) : bn f n = bn g n:=by
 apply Nat.eq_of_testBit_eq
 intro i
 rw [bn_bit,bn_bit]
 by_cases hi : i < n
 ·simp [hi,h i hi]
 ·simp [hi]
def setB (f : Nat → Bool) (g : Nat) (b : Bool) : Nat → Bool:=fun i => if i = g then b else f i
theorem wrapU (n : Nat) (h : n < 18446744073709551616) : IntKind.u64.wrap (n : Int) = (n : Int):=by
 show (n : Int) % 18446744073709551616 = n
 omega
theorem bit_or (f : Nat → Bool) (j : Nat) (hj : j < 64) : bits .or .u64 ((bn f 64 : Nat) : Int) ((2 ^ j : Nat) : Int) = ((bn (setB f j true) 64 : Nat) : Int):=by
 have h1:=bn_lt 64 f
 show IntKind.u64.wrap ((BitVec.ofInt 64 ((bn f 64 : Nat) : Int) ||| BitVec.ofInt 64 ((2 ^ j : Nat) : Int)).toNat : Int) = _
 have he : (BitVec.ofInt 64 ((bn f 64 : Nat) : Int) ||| BitVec.ofInt 64 ((2 ^ j : Nat) : Int)).toNat = bn (setB f j true) 64:=by
  apply Nat.eq_of_testBit_eq
  intro i
  rw [BitVec.testBit_toNat,BitVec.getLsbD_or,BitVec.ofInt_natCast,BitVec.ofInt_natCast,BitVec.getLsbD_ofNat,BitVec.getLsbD_ofNat,bn_bit,bn_bit,Nat.testBit_two_pow]
  by_cases hi : i < 64
  ·by_cases h : i = j
   ·subst h; simp [hi,setB]
   ·have : ¬ j = i:=fun e => h e.symm
    simp [hi,setB,h,this]
  ·simp [hi]
 rw [he,wrapU _ (by have:=bn_lt 64 (setB f j true); simpa using this)]
theorem bit_andNot (f : Nat → Bool) (j : Nat) (hj : j < 64) : bits .andNot .u64 ((bn f 64 : Nat) : Int) ((2 ^ j : Nat) : Int) = ((bn (setB f j false) 64 : Nat) : Int):=by
 show IntKind.u64.wrap ((BitVec.ofInt 64 ((bn f 64 : Nat) : Int) &&& ~~~ BitVec.ofInt 64 ((2 ^ j : Nat) : Int)).toNat : Int) = _
 have he : (BitVec.ofInt 64 ((bn f 64 : Nat) : Int) &&& ~~~ BitVec.ofInt 64 ((2 ^ j : Nat) : Int)).toNat = bn (setB f j false) 64:=by
  apply Nat.eq_of_testBit_eq
  intro i
  rw [BitVec.testBit_toNat,BitVec.getLsbD_and,BitVec.getLsbD_not,BitVec.ofInt_natCast,BitVec.ofInt_natCast,BitVec.getLsbD_ofNat,BitVec.getLsbD_ofNat,bn_bit,bn_bit,Nat.testBit_two_pow]
  by_cases hi : i < 64
  ·by_cases h : i = j
   ·subst h; simp [hi,setB]
   ·have : ¬ j = i:=fun e => h e.symm
    simp [hi,setB,h,this]
  ·simp [hi]
 rw [he,wrapU _ (by have:=bn_lt 64 (setB f j false); simpa using this)]
theorem bit_get (f : Nat → Bool) (j : Nat) (hj : j < 64) : (bits .and .u64 (((bn f 64 : Nat) : Int).fdiv ((2 : Int) ^ j)) (1 : Int) == (1 : Int)) = f j:=by
 have e2 : (2 : Int) ^ j = ((2 ^ j : Nat) : Int):=by rw [Int.natCast_pow]; rfl
 rw [e2,fdA]
 have h1:=bn_lt 64 f
 have hlt : bn f 64 / 2 ^ j < 2 ^ 64:=Nat.lt_of_le_of_lt (Nat.div_le_self _ _) h1
 have hb : bits .and .u64 ((bn f 64 / 2 ^ j : Nat) : Int) (1 : Int) = ((bn f 64 / 2 ^ j % 2 : Nat) : Int):=by
  show IntKind.u64.wrap ((BitVec.ofInt 64 ((bn f 64 / 2 ^ j : Nat) : Int) &&& BitVec.ofInt 64 ((1 : Nat) : Int)).toNat : Int) = _
  rw [BitVec.ofInt_natCast,BitVec.ofInt_natCast,BitVec.toNat_and,BitVec.toNat_ofNat,BitVec.toNat_ofNat,Nat.mod_eq_of_lt hlt,Nat.mod_eq_of_lt (by omega : 1 < 2 ^ 64),Nat.and_one_is_mod,wrapU _ (by omega)]
 rw [hb]
 have ht : (bn f 64).testBit j = f j:=by rw [bn_bit]; simp [hj]
 rw [Nat.testBit_eq_decide_div_mod_eq] at ht
 rw [← ht]
 have : bn f 64 / 2 ^ j % 2 = 0 ∨ bn f 64 / 2 ^ j % 2 = 1:=by omega
 rcases this with h | h <;> rw [h] <;> rfl
def wordsB (f : Nat → Bool) (n : Nat) : List Nat:=(List.range n).map fun k => bn (fun i => f (64 * k + i)) 64
theorem wordsB_len (f : Nat → Bool) (n : Nat) : (wordsB f n).length = n:=by simp [wordsB]
theorem v64_at (f : Nat → Bool) (n k : Nat) (h : k < n) : intOf' (getD' undef (v64 (wordsB f n)) k) = ((bn (fun i => f (64 * k + i)) 64 : Nat) : Int):=by
 unfold v64
 rw [getD_map _ _ (0 : Nat),if_pos (by rw [wordsB_len]; exact h)]
 show (((wordsB f n).getD k 0 : Nat) : Int) = _
 rw [List.getD_eq_getElem?_getD]
 simp [wordsB,h]
theorem v64_like (f : Nat → Bool) (n k : Nat) (h : k < n) : isLikeL [.int .u64 0] (v64 (wordsB f n)) k = true:=by
 simp only [rr, tt, isLikeL,Bool.and_true]
 unfold v64
 rw [getD_map _ _ (0 : Nat),if_pos (by rw [wordsB_len]; exact h)]
 rfl
theorem v64_has (ws : List Nat) (k : Nat) : hasN k (v64 ws) = decide (k ≤ ws.length):=by
 rw [Bool.eq_iff_iff,hasN_iff]; simp [v64]
theorem v64_flat (ws : List Nat) : ∀ v ∈ v64 ws,flat0 v = true:=fun v hv => by
 obtain ⟨b,_,rfl⟩:=List.mem_map.1 hv; rfl
theorem v64_set (f g : Nat → Bool) (n k : Nat) (h : k < n) (he : ∀ i,i / 64 ≠ k → f i = g i) (v : Nat) (hv : v = bn (fun i => g (64 * k + i)) 64) : setAt k [.int .u64 (v : Nat)] (v64 (wordsB f n)) = v64 (wordsB g n):=by
 apply List.ext_getElem?
 intro j
 rw [setAt_get _ _ _ _ (by simp [v64,wordsB_len]; omega)]
 simp only [rr, tt, v64,List.getElem?_map,List.length_singleton]
 by_cases hj : k ≤ j ∧ j < k + 1
 ·have : j = k:=by omega
  subst this
  rw [if_pos hj]
  simp [wordsB,h,hv]
 ·rw [if_neg hj]
  by_cases hn : j < n
  ·simp only [rr, tt, wordsB,List.getElem?_map,List.getElem?_range hn,Option.map_some]
   rw [bn_ext (fun i => f (64 * j + i)) (fun i => g (64 * j + i)) 64 (fun i hi => he _ (by omega))]
  ·simp only [rr, tt, wordsB,List.getElem?_map]
   have hnone : (List.range n)[j]? = none:=List.getElem?_eq_none (by simp; omega)
   simp only [rr, tt, hnone,Option.map_none]
end Go.Proofs.Ytliidiceljdgmaa
namespace Go.Proofs.Ytliidiceljdgmaa
open Go.RowKit
open Sy
set_option maxRecDepth 100000
theorem selPop_ok : SelOk Try.prog 3 (selPop popN):=by
 intro f args s c ρ q h hq
 unfold selPop at h
 obtain ⟨h2,h3⟩:=bif_some h
 have h2:=eB h2
 subst h2
 split at h3
 ·cases h3; exact pop_con _
 ·cases h3
theorem mpW_okH {q : Nat → Bool} (h : ∀ l,l < 68 → q l = true) (rw : Bool) (m : Nat) (ws : List Nat) : OkH q (mpW rw m ws) :=
 ⟨⟨h 66 (by omega),rfl,fun v hv => okV_bnd 3 v (mp_cell h m ws.length v hv)⟩,⟨h 65 (by omega),h 65 (by omega),flat_bnd (v64_flat ws)⟩,trivial⟩
def tgWC (args : List Value) (v : Value) (m n : Nat) (f g : Nat → Bool) : Con:=⟨args,68,mpW true m (wordsB f n),[(65,n)],v,68,[(65,⟨true,some (65,1),v64 (wordsB g n),none⟩)],[]⟩
theorem tgW_run {fn : FuncId} {args : List Value} {v : Value} {m n : Nat} {f g : Nat → Bool} {T : List (Nat × Bool)} {s' : Sy.St} (ha : args.all (okV (fun l => Nat.blt l 68) 3) = true) (hv : flat2 v = true) (hu : isU v = false)
  (hr : evF Try.prog (baseC 3 (selPop popN)) noLoop 100 40 fn args ⟨68,mpW true m (wordsB f n),[(65,n)],0,T,0,True⟩ = some (v,s')) (hO : s'.O) (h65 : Sy.look s'.h 65 = some ⟨true,some (65,1),v64 (wordsB g n),none⟩) : ConOk Try.prog fn 3 (tgWC args v m n f g):=by
 refine conOk_run (run_ok (L:=100) ar_names (baseC_ok selPop_ok) (noLoop_ok _) 40) ⟨by show 64 ≤ 68; omega,Nat.le_refl _,mpW_okH lt68 true m _,rfl,rfl,rfl,ha,okV_flat2 hv 1,fun x hx v hv => ?_⟩ hr hO (p:=fun l => Nat.blt l 68) (σ:=id) ?_
 ·obtain rfl:=List.mem_singleton.1 hx
  exact okV_flat0 (v64_flat _ v hv) 3
 ·refine ⟨fun _ _ => rfl,⟨⟨rfl,flat_all (v64_flat _),rfl,?_⟩,trivial⟩,rfl,trivial,⟨okV_flat2 hv 1,by rw [rnV_id]; rfl⟩,hu,⟨⟨rfl,rfl,flat_bnd (v64_flat _)⟩,trivial⟩,rfl,bnd_flat2 _ hv,fun x _ _ => .inl rfl⟩
  simp only [rr, tt, id,h65]
  exact ⟨rfl,rfl,trivial,(map_id3 _ rfl _).symm⟩
def clwC (g m n : Nat) (f : Nat → Bool) (v : Int) : Con:=tgWC [.pointer (some ⟨66,0,none⟩),.int .i64 (g : Nat),.int .i64 ((g : Nat) + 1 : Nat)] (.int .i64 v) m n f (setB f g false)
def ptwC (g m n : Nat) (f : Nat → Bool) (b : Bool) : Con:=tgWC [.pointer (some ⟨66,0,none⟩),.int .i64 (g : Nat),.bool b] (.bool true) m n f (setB f g b)
theorem setB_out (f : Nat → Bool) (g : Nat) (b : Bool) : ∀ i,i / 64 ≠ g / 64 → f i = setB f g b i:=fun i hi => by
 unfold setB
 rw [if_neg (fun e => hi (by rw [e]))]
theorem setB_word (f : Nat → Bool) (g : Nat) (b : Bool) : bn (setB (fun i => f (64 * (g / 64) + i)) (g % 64) b) 64 = bn (fun i => setB f g b (64 * (g / 64) + i)) 64:=by
 refine bn_ext _ _ 64 fun i hi => ?_
 unfold setB
 by_cases h : i = g % 64
 ·rw [if_pos h,if_pos (by omega)]
 ·rw [if_neg h,if_neg (by omega)]
theorem ptw_con (g m n : Nat) (f : Nat → Bool) (b : Bool) (hg : g < m) (hm : m ≤ 64 * n) (hn : n ≤ 100000) : ConOk Try.prog 63 3 (ptwC g m n f b):=by
 have hk : g / 64 < n:=by omega
 have e1 : IntKind.i64.wrap ((g : Int).tdiv (64 : Int)) = ((g / 64 : Nat) : Int):=by rw [show (g : Int).tdiv (64 : Int) = ((g / 64 : Nat) : Int) from (Int.ofNat_tdiv g 64).symm,w64A _ (by omega)]
 have e2 : (g : Int).tmod (64 : Int) = ((g % 64 : Nat) : Int):=(Int.ofNat_tmod g 64).symm
 have e3 : min (g % 64) 64 = g % 64:=Nat.min_eq_left (by omega)
 have hp : 2 ^ (g % 64) ≤ 2 ^ 63:=Nat.pow_le_pow_right (by omega) (by omega)
 have e4 : IntKind.u64.wrap ((1 : Int) * (2 : Int) ^ (g % 64)) = ((2 ^ (g % 64) : Nat) : Int):=by
  rw [Int.one_mul,show (2 : Int) ^ (g % 64) = ((2 ^ (g % 64) : Nat) : Int) by rw [Int.natCast_pow]; rfl,wrapU _ (by omega)]
 cases b
 ·have hr:=pw_f popN (g : Int) m (wordsB f n)
  simp only [rr, tt, wordsB_len] at hr
  simp (disch:=omega) only [rr, tt, e1,e2,e3,e4,Int.toNat_natCast,Nat.zero_add,Nat.mul_one,v64_at,bit_andNot] at hr
  rw [v64_set f (setB f g false) n (g / 64) hk (setB_out f g false) _ (setB_word f g false)] at hr
  refine tgW_run rfl rfl rfl hr ?_ rfl
  simp (disch:=omega) only [rr, tt, v64_has,v64_like,wordsB_len,decide_eq_true,decide_eq_false,Bool.and_self,Bool.not_true,Bool.not_false,cond_true,and_true,true_and,and_self,ge_iff_le]
 ·have hr:=pw_t popN (g : Int) m (wordsB f n)
  simp only [rr, tt, wordsB_len] at hr
  simp (disch:=omega) only [rr, tt, e1,e2,e3,e4,Int.toNat_natCast,Nat.zero_add,Nat.mul_one,v64_at,bit_or] at hr
  rw [v64_set f (setB f g true) n (g / 64) hk (setB_out f g true) _ (setB_word f g true)] at hr
  refine tgW_run rfl rfl rfl hr ?_ rfl
  simp (disch:=omega) only [rr, tt, v64_has,v64_like,wordsB_len,decide_eq_true,decide_eq_false,Bool.and_self,Bool.not_true,Bool.not_false,cond_true,and_true,true_and,and_self,ge_iff_le]
theorem clw_con (g m n : Nat) (f : Nat → Bool) (hg : g < m) (hm : m ≤ 64 * n) (hn : n ≤ 100000) : ∃ v : Int,ConOk Try.prog 83 3 (clwC g m n f v):=by
 have hk : g / 64 < n:=by omega
 have hr:=cw_a popN (g : Int) ((g + 1 : Nat) : Int) m (wordsB f n)
 have x1 : (if (0 : Int) > (g : Int) then (0 : Int) else (g : Int)) = (g : Int):=if_neg (by omega)
 have x2 : (if (m : Int) < ((g + 1 : Nat) : Int) then (m : Int) else ((g + 1 : Nat) : Int)) = ((g + 1 : Nat) : Int):=if_neg (by omega)
 have e1 : IntKind.i64.wrap ((g : Int).tdiv (64 : Int)) = ((g / 64 : Nat) : Int):=by rw [show (g : Int).tdiv (64 : Int) = ((g / 64 : Nat) : Int) from (Int.ofNat_tdiv g 64).symm,w64A _ (by omega)]
 have x3 : IntKind.i64.wrap (((g / 64 : Nat) : Int) * (64 : Int)) = ((g / 64 * 64 : Nat) : Int):=by rw [show ((g / 64 : Nat) : Int) * (64 : Int) = ((g / 64 * 64 : Nat) : Int) by omega,w64A _ (by omega)]
 have x4 : IntKind.i64.wrap (((g / 64 : Nat) : Int) + (1 : Int)) = ((g / 64 + 1 : Nat) : Int):=cast_succ_i64 _ (by omega)
 have x5 : IntKind.i64.wrap (((g / 64 + 1 : Nat) : Int) * (64 : Int)) = (((g / 64 + 1) * 64 : Nat) : Int):=by rw [show ((g / 64 + 1 : Nat) : Int) * (64 : Int) = (((g / 64 + 1) * 64 : Nat) : Int) by omega,w64A _ (by omega)]
 have x6 : IntKind.i64.wrap ((g : Int) - ((g / 64 * 64 : Nat) : Int)) = ((g % 64 : Nat) : Int):=by rw [show (g : Int) - ((g / 64 * 64 : Nat) : Int) = ((g % 64 : Nat) : Int) by omega,w64A _ (by omega)]
 have x7 : IntKind.i64.wrap (((g + 1 : Nat) : Int) - ((g / 64 * 64 : Nat) : Int)) = ((g % 64 + 1 : Nat) : Int):=by rw [show ((g + 1 : Nat) : Int) - ((g / 64 * 64 : Nat) : Int) = ((g % 64 + 1 : Nat) : Int) by omega,w64A _ (by omega)]
 have x8 : (if (64 : Int) < ((g % 64 + 1 : Nat) : Int) then (64 : Int) else ((g % 64 + 1 : Nat) : Int)) = ((g % 64 + 1 : Nat) : Int):=if_neg (by omega)
 have x9 : (if (0 : Int) > ((g % 64 : Nat) : Int) then (0 : Int) else ((g % 64 : Nat) : Int)) = ((g % 64 : Nat) : Int):=if_neg (by omega)
 have y1 : IntKind.i64.wrap (((g % 64 + 1 : Nat) : Int) - ((g % 64 : Nat) : Int)) = (1 : Int):=by rw [show ((g % 64 + 1 : Nat) : Int) - ((g % 64 : Nat) : Int) = ((1 : Nat) : Int) by omega,w64A _ (by omega)]; rfl
 have y2 : IntKind.i64.wrap ((64 : Int) - (1 : Int)) = (63 : Int):=by kernel_rfl
 have y3 : Int.fdiv (18446744073709551615 : Int) ((2 : Int) ^ min (63 : Int).toNat 64) = 1:=by kernel_rfl
 have e3 : min (g % 64) 64 = g % 64:=Nat.min_eq_left (by omega)
 have hp : 2 ^ (g % 64) ≤ 2 ^ 63:=Nat.pow_le_pow_right (by omega) (by omega)
 have e4 : IntKind.u64.wrap ((1 : Int) * (2 : Int) ^ (g % 64)) = ((2 ^ (g % 64) : Nat) : Int):=by
  rw [Int.one_mul,show (2 : Int) ^ (g % 64) = ((2 ^ (g % 64) : Nat) : Int) by rw [Int.natCast_pow]; rfl,wrapU _ (by omega)]
 simp only [rr, tt, wordsB_len] at hr
 simp (disch:=omega) only [rr, tt, x1,x2,e1,x3,x4,x5,x6,x7,x8,x9,y1,y2,y3,e3,e4,Int.toNat_natCast,Nat.zero_add,Nat.mul_one,v64_at,bit_andNot] at hr
 rw [v64_set f (setB f g false) n (g / 64) hk (setB_out f g false) _ (setB_word f g false)] at hr
 refine ⟨_,tgW_run rfl rfl rfl hr ?_ rfl⟩
 simp (disch:=omega) only [rr, tt, v64_has,v64_like,wordsB_len,decide_eq_true,decide_eq_false,Bool.and_self,Bool.not_true,Bool.not_false,cond_true,and_true,true_and,and_self,ge_iff_le]
def gtwC (g m n : Nat) (f : Nat → Bool) : Con:=⟨[.pointer (some ⟨66,0,none⟩),.int .i64 (g : Nat)],68,mpW false m (wordsB f n),[(65,n)],.bool (f g),68,[],[]⟩
theorem gtw_con (g m n : Nat) (f : Nat → Bool) (hg : g < m) (hm : m ≤ 64 * n) (hn : n ≤ 100000) : ConOk Try.prog 43 3 (gtwC g m n f):=by
 have hk : g / 64 < n:=by omega
 have e1 : IntKind.i64.wrap ((g : Int).tdiv (64 : Int)) = ((g / 64 : Nat) : Int):=by rw [show (g : Int).tdiv (64 : Int) = ((g / 64 : Nat) : Int) from (Int.ofNat_tdiv g 64).symm,w64A _ (by omega)]
 have e2 : (g : Int).tmod (64 : Int) = ((g % 64 : Nat) : Int):=(Int.ofNat_tmod g 64).symm
 have e3 : min (g % 64) 64 = g % 64:=Nat.min_eq_left (by omega)
 have hr:=gw_a popN (g : Int) m (wordsB f n)
 simp only [rr, tt, wordsB_len] at hr
 simp (disch:=omega) only [rr, tt, e1,e2,e3,Int.toNat_natCast,Nat.zero_add,Nat.mul_one,v64_at,bit_get] at hr
 have hfg : f (64 * (g / 64) + g % 64) = f g:=by rw [show 64 * (g / 64) + g % 64 = g by omega]
 rw [hfg] at hr
 unfold obs at hr
 obtain ⟨⟨v',s'⟩,h1,h2⟩:=oM hr
 simp only [rr, tt, Prod.mk.injEq] at h2
 obtain ⟨rfl,hq⟩:=h2
 refine conOk_run (run_ok (L:=100) ar_names (baseC_ok selPop_ok) (noLoop_ok _) 40) ⟨by show 64 ≤ 68; omega,Nat.le_refl _,mpW_okH lt68 false m _,rfl,rfl,rfl,rfl,rfl,fun x hx => by cases hx⟩ h1 ?_ (p:=fun l => Nat.blt l 68) (σ:=id) ?_
 ·rw [hq]
  simp (disch:=omega) only [rr, tt, v64_has,v64_like,wordsB_len,decide_eq_true,decide_eq_false,Bool.and_self,Bool.not_true,Bool.not_false,cond_true,and_true,true_and,and_self,ge_iff_le]
 ·exact ⟨fun _ _ => rfl,trivial,rfl,trivial,⟨rfl,by rw [rnV_id]; rfl⟩,rfl,trivial,rfl,bnd_flat0 _ rfl,fun x hx => by cases hx⟩
end Go.Proofs.Ytliidiceljdgmaa
namespace Go.Proofs.Ytliidiceljdgmaa
open Go.RowKit
structure Box (p : Prop) : Prop where
 out : p
theorem hide {p : Prop} (h : p) : Hid p:=h
theorem block_of_add (a : Addr) (n : Nat) : (a.add n).block = a.block:=by unfold Addr.add; split <;> rfl
theorem add_of_add (a : Addr) (i j : Nat) : (a.add i).add j = a.add (i + j):=by
 unfold Addr.add
 by_cases hi : i = 0 <;> by_cases hj : j = 0 <;> simp [hi,hj,Nat.add_assoc]
def Reads (w : World) (B size : Nat) (A : Option Addr) (n : Nat) (xs : List Value) : Prop :=
 xs.length = n * size ∧ (0 < n → ∃ ad,A = some ad ∧ ad.block < B ∧ ∀ j u,xs[j]? = some u → w.cell? (ad.add j) = some u)
section
variable {w w' : World} {B B' size n : Nat} {A : Option Addr} {xs : List Value}
theorem Reads.at_ {k : Nat} (h : Reads w B 1 A n xs) (hk : k < n) : ∃ ad u,A = some ad ∧ ad.block < B ∧ xs[k]? = some u ∧ w.cell? (ad.add k) = some u:=by
 obtain ⟨ad,e,hb,hc⟩:=h.2 (by omega)
 have hl : k < xs.length:=by have:=h.1; omega
 exact ⟨ad,xs[k],e,hb,List.getElem?_eq_getElem hl,hc k _ (List.getElem?_eq_getElem hl)⟩
theorem Reads.keep (h : Reads w B size A n xs) (hk : ∀ p : Addr,p.block < B → w'.cell? p = w.cell? p) : Reads w' B size A n xs :=
 ⟨h.1,fun hn => by
  obtain ⟨ad,e,hb,hc⟩:=h.2 hn
  exact ⟨ad,e,hb,fun j u hu => (hk _ (by rw [block_of_add]; exact hb)).trans (hc j u hu)⟩⟩
theorem Reads.below (h : Reads w B size A n xs) (hb : Below B w w') : Reads w' B size A n xs:=h.keep fun _ hp => hb.cell hp
theorem Reads.drew (h : Reads w B size A n xs) : Reads w.drew B size A n xs:=h
theorem Reads.drewN (h : Reads w B size A n xs) (k : Nat) : Reads (w.drewN k) B size A n xs:=h
theorem Reads.alloc (h : Reads w B size A n xs) (hB : B ≤ w.heap.size) (o : Obj) : Reads (w.alloc o) B size A n xs:=h.keep fun p hp => World.cell?_alloc_lt w o p (by omega)
theorem Reads.setCell (h : Reads w B size A n xs) {p : Addr} (hB : B ≤ p.block) (u : Value) : Reads (w.setCell p u) B size A n xs :=
 h.keep fun q hq => World.cell?_setCell_other w p q u (fun e => by subst e; omega)
theorem Reads.cut (h : Reads w B size A n xs) {k cap : Nat} (hk : k ≤ n) (hc : n ≤ cap) :
  Reads w B size (if cap = k then A else A.map (·.add (k * size))) (n - k) (xs.drop (k * size)):=by
 refine ⟨by rw [List.length_drop,h.1,Nat.sub_mul],fun hn => ?_⟩
 obtain ⟨ad,rfl,hb,hcell⟩:=h.2 (by omega)
 rw [if_neg (by omega)]
 refine ⟨ad.add (k * size),rfl,by rw [block_of_add]; exact hb,fun j u hu => ?_⟩
 rw [add_of_add]
 exact hcell _ u (by rw [← hu,List.getElem?_drop])
end
def Blk (w : World) (g : Nat) (t : TypeId) (cs : Array Value) : Prop:=w.heap[g]? = some (.cells cs t (0,0))
section
variable {w w' : World} {g : Nat} {t : TypeId} {cs : Array Value}
theorem Blk.lt (h : Blk w g t cs) : g < w.heap.size:=by
 rcases Nat.lt_or_ge g w.heap.size with hlt | hge
 ·exact hlt
 ·unfold Blk at h; rw [Array.getElem?_eq_none hge] at h; cases h
theorem Blk.cell (h : Blk w g t cs) (i : Nat) : w.cell? ⟨g,i,none⟩ = cs[i]?:=cell_of_row w g i cs t (0,0) h
theorem Blk.frozen (h : Blk w g t cs) (i : Nat) : w.frozen? ⟨g,i,none⟩ = false:=by
 unfold Blk at h
 simp [World.frozen?,h]
theorem Blk.new (w : World) (t : TypeId) (cs : Array Value) : Blk (w.alloc (.cells cs t)) w.heap.size t cs:=heap_alloc_new w _
theorem Blk.drew (h : Blk w g t cs) : Blk w.drew g t cs:=h
theorem Blk.drewN (h : Blk w g t cs) (n : Nat) : Blk (w.drewN n) g t cs:=h
theorem Blk.alloc (h : Blk w g t cs) (o : Obj) : Blk (w.alloc o) g t cs:=(Below.heap_alloc w o g h.lt).trans h
theorem Blk.set_ (h : Blk w g t cs) (i : Nat) (u : Value) : Blk (w.setCell ⟨g,i,none⟩ u) g t (cs.setIfInBounds i u):=by
 unfold Blk at h ⊢
 simp [World.setCell,Array.getElem?_modify,h]
theorem Blk.far (h : Blk w g t cs) {p : Addr} (hp : g ≠ p.block) (u : Value) : Blk (w.setCell p u) g t cs:=(Below.heap_setCell w p u g hp).trans h
theorem Blk.below {B : Nat} (h : Blk w g t cs) (hb : Below B w w') (hg : g < B) : Blk w' g t cs:=(hb.block g hg).trans h
end
def Row (w : World) (B : Nat) (A : Option Addr) (xs : List Value) : Prop :=
 xs = [] ∨ ∃ g off,A = some ⟨g,off,none⟩ ∧ g < B ∧ ∀ j u,xs[j]? = some u → w.cell? ⟨g,off + j,none⟩ = some u
section
variable {w w' : World} {B B' : Nat} {A : Option Addr} {xs : List Value}
theorem Row.keep (h : Row w B A xs) (hk : ∀ p : Addr,p.block < B → w'.cell? p = w.cell? p) : Row w' B A xs:=by
 rcases h with h | ⟨g,off,e,hb,hc⟩
 ·exact .inl h
 ·exact .inr ⟨g,off,e,hb,fun j u hu => (hk _ hb).trans (hc j u hu)⟩
theorem Row.below (h : Row w B A xs) (hb : Below B w w') : Row w' B A xs:=h.keep fun _ hp => hb.cell hp
theorem Row.drew (h : Row w B A xs) : Row w.drew B A xs:=h
theorem Row.drewN (h : Row w B A xs) (k : Nat) : Row (w.drewN k) B A xs:=h
theorem Row.alloc (h : Row w B A xs) (hB : B ≤ w.heap.size) (o : Obj) : Row (w.alloc o) B A xs:=h.keep fun p hp => World.cell?_alloc_lt w o p (by omega)
theorem Row.setCell (h : Row w B A xs) {p : Addr} (hB : B ≤ p.block) (u : Value) : Row (w.setCell p u) B A xs :=
 h.keep fun q hq => World.cell?_setCell_other w p q u (fun e => by subst e; omega)
theorem Row.cut (h : Row w B A xs) {k cap : Nat} (hk : k ≤ xs.length) (hc : xs.length ≤ cap) :
  Row w B (if cap = k then A else A.map (·.add (k * 1))) (xs.drop k):=by
 rcases Nat.lt_or_ge k xs.length with hlt | hge
 ·rcases h with h | ⟨g,off,rfl,hb,hcell⟩
  ·subst h; simp at hlt
  ·rw [if_neg (by omega)]
   refine .inr ⟨g,off + k,?_,hb,fun j u hu => ?_⟩
   ·simp only [rr, tt, Option.map_some,Nat.mul_one,Addr.add]; split
    ·rename_i h0; subst h0; rfl
    ·rfl
   ·rw [List.getElem?_drop] at hu
    rw [Nat.add_assoc]; exact hcell _ u hu
 ·left; exact List.drop_eq_nil_of_le hge
theorem Row.take (h : Row w B A xs) (k : Nat) : Row w B A (xs.take k):=by
 rcases h with h | ⟨g,off,e,hb,hc⟩
 ·exact .inl (by simp [h])
 ·exact .inr ⟨g,off,e,hb,fun j u hu => hc j u (by
   rw [List.getElem?_take] at hu; split at hu
   ·exact hu
   ·cases hu)⟩
theorem Row.place (h : Row w B A xs) (hx : 0 < xs.length) : ∃ g off,A = some ⟨g,off,none⟩ ∧ g < B ∧ ∀ j u,xs[j]? = some u → w.cell? ⟨g,off + j,none⟩ = some u:=by
 rcases h with h | h
 ·subst h; simp at hx
 ·exact h
end
def bs (l : List UInt8) : ByteArray:=⟨l.toArray⟩
@[go_sem] theorem bs_size (l : List UInt8) : (bs l).size = l.length:=by simp [bs,ByteArray.size]
@[go_sem] theorem bs_toList (l : List UInt8) : (bs l).toList = l:=ByteArray.toList_mk l
@[go_sem] theorem bs_append (a b : List UInt8) : bs a ++ bs b = bs (a ++ b):=ByteArray.mk_append_mk a b
@[go_sem] theorem bs_extract (l : List UInt8) (a b : Nat) : (bs l).extract a b = bs ((l.drop a).take (b - a)):=ByteArray.extract_mk l a b
@[go_sem] theorem bs_get (l : List UInt8) (i : Nat) (h : i < (bs l).size) : (bs l)[i]'h = l[i]'(by simpa [bs_size] using h):=by
 simp [bs,ByteArray.getElem_eq_getElem_data]
theorem ret_int {k : IntKind} {a b : Int} (h : a = b) : Ending.returned (.int k a) = .returned (.int k b):=by rw [h]
theorem ret_bool {a b : Bool} (h : a = b) : Ending.returned (.bool a) = .returned (.bool b):=by rw [h]
theorem below_of_drew {B : Nat} {w w' : World} (h : Below B w.drew w') : Below B w w':=⟨h.os,h.tape,h.output,h.size,h.block⟩
theorem below_drewN {B : Nat} {a w : World} (h : Below B a w) (n : Nat) : Below B a (w.drewN n):=⟨h.os,h.tape,h.output,h.size,h.block⟩
theorem bcell {W w1 : World} (hb : Below W.heap.size W w1) : (∀ b o,b < W.heap.size → w1.cell? ⟨b,o,none⟩ = W.cell? ⟨b,o,none⟩) ∧ (∀ b o,b < W.heap.size → w1.frozen? ⟨b,o,none⟩ = W.frozen? ⟨b,o,none⟩) :=
 ⟨fun b o h => hb.cell (p:=⟨b,o,none⟩) h,fun b o h => hb.frozen (p:=⟨b,o,none⟩) h⟩
theorem quiet_left {P : Program} {f : FuncId} {args : Array Value} {w : World} {n : Nat} {v : Value}
  (h : Calls P f args (w.drewN n) fun e w' => e = .returned v ∧ w.drewN n = w') : Calls P f args (w.drewN n) fun e w'' => e = .returned v ∧ ∃ m,w'' = w.drewN m :=
 h.mono fun _ _ ⟨he,hm⟩ => ⟨he,n,hm.symm⟩
end Go.Proofs.Ytliidiceljdgmaa
namespace Go.Proofs.Ytliidiceljdgmaa
def turnN (x edge : Nat) : Nat:=if x < edge then 1 else 0
theorem turnN_le (x edge : Nat) : turnN x edge ≤ 1:=by unfold turnN; split <;> omega
def edgeN (b : Nat) : Nat:=(b + 3072) % 4096
def highN (e b c : Nat) : Int:=((c / 2 ^ e / 4096 : Nat) : Int) - (turnN (c / 2 ^ e % 4096) (edgeN b) : Nat)
def ofN (e b c x : Nat) : Int:=((highN e b c + (turnN x (edgeN b) : Nat)) * 4096 + x) * 2 ^ e
def mayN (e b t : Nat) : Bool:=decide (e ≤ 21) && decide (b < 4096) && decide (t < 4096)
def tellB (e b t c : Nat) : Int:=if mayN e b t then ofN e b c b else 0
def tellT (e b t c : Nat) : Int:=if mayN e b t then ofN e b c t else 0
def tellOk (e b t c : Nat) : Bool:=mayN e b t && decide (0 ≤ tellB e b t c) && decide (tellB e b t c ≤ tellT e b t c) && decide (tellT e b t c ≤ 4294967296)
theorem mayN_true {e b t : Nat} (h : mayN e b t = true) : e ≤ 21 ∧ b < 4096 ∧ t < 4096:=by
 simp only [rr, tt, mayN,Bool.and_eq_true,decide_eq_true_eq] at h; exact ⟨h.1.1,h.1.2,h.2⟩
theorem mayN_mk {e b t : Nat} (h1 : e ≤ 21) (h2 : b < 4096) (h3 : t < 4096) : mayN e b t = true:=by simp [mayN,h1,h2,h3]
theorem pow_le_21 {e : Nat} (h : e ≤ 21) : 2 ^ e ≤ 2097152:=by
 have:=Nat.pow_le_pow_right (n:=2) (by omega) h
 simpa using this
theorem pow_pos2 (e : Nat) : 0 < 2 ^ e:=Nat.pow_pos (by omega)
theorem high_bd {e b c : Nat} (hc : c < 4294967296) : -1 ≤ highN e b c ∧ highN e b c ≤ 1048575:=by
 unfold highN
 have h1:=turnN_le (c / 2 ^ e % 4096) (edgeN b)
 have h2 : c / 2 ^ e ≤ c:=Nat.div_le_self _ _
 generalize c / 2 ^ e = q at h1 h2 ⊢
 have h3 : q / 4096 ≤ 1048575:=by omega
 omega
theorem mul_pow_bd {e : Nat} (he : e ≤ 21) (y : Int) (h1 : -8589934592 ≤ y) (h2 : y ≤ 8589934592) : -9223372036854775808 ≤ y * 2 ^ e ∧ y * 2 ^ e ≤ 9223372036854775807:=by
 have hp:=pow_le_21 he
 have h0:=pow_pos2 e
 have e1 : ((2 : Int) ^ e) = ((2 ^ e : Nat) : Int):=by simp
 rw [e1]
 generalize 2 ^ e = u at hp h0
 have a1 : y * (u : Int) ≤ 8589934592 * (u : Int):=Int.mul_le_mul_of_nonneg_right h2 (by omega)
 have a2 : -8589934592 * (u : Int) ≤ y * (u : Int):=Int.mul_le_mul_of_nonneg_right h1 (by omega)
 omega
theorem of_bd {e b c x : Nat} (hc : c < 4294967296) (hx : x < 65536) : -8589934592 ≤ (highN e b c + (turnN x (edgeN b) : Nat)) * 4096 + x ∧ (highN e b c + (turnN x (edgeN b) : Nat)) * 4096 + x ≤ 8589934592:=by
 have h1:=turnN_le x (edgeN b)
 have h2:=high_bd (e:=e) (b:=b) hc
 omega
def dnN (x e : Nat) : Nat:=x / 2 ^ e * 2 ^ e
def upN (x e : Nat) : Nat:=(x + (2 ^ e - 1)) / 2 ^ e * 2 ^ e
def fitsN (b t e : Nat) : Bool:=decide (upN t e - dnN b e ≤ 2048 * 2 ^ e)
def expoFrom (b t : Nat) : Nat → Nat → Nat
 | 0,e => e
 | n + 1,e => if fitsN b t e then e else expoFrom b t n (e + 1)
def expoN (b t : Nat) : Nat:=expoFrom b t 21 0
theorem dn_le (x e : Nat) : dnN x e ≤ x:=Nat.div_mul_le_self _ _
theorem up_ge (x e : Nat) : x ≤ upN x e:=by
 unfold upN
 have h0:=pow_pos2 e
 have h1:=Nat.div_add_mod (x + (2 ^ e - 1)) (2 ^ e)
 have h2:=Nat.mod_lt (x + (2 ^ e - 1)) h0
 rw [Nat.mul_comm] at h1
 omega
theorem up_lt (x e : Nat) : upN x e < x + 2 ^ e:=by
 unfold upN
 have h0:=pow_pos2 e
 have h1:=Nat.div_mul_le_self (x + (2 ^ e - 1)) (2 ^ e)
 omega
theorem up_least {x e k : Nat} (h : x ≤ k * 2 ^ e) : upN x e ≤ k * 2 ^ e:=by
 unfold upN
 have h0:=pow_pos2 e
 have : (x + (2 ^ e - 1)) / 2 ^ e ≤ k:=by
  have h1 : (x + (2 ^ e - 1)) / 2 ^ e < k + 1:=(Nat.div_lt_iff_lt_mul h0).2 (by rw [Nat.add_mul,Nat.one_mul]; omega)
  omega
 exact Nat.mul_le_mul_right _ this
theorem up_whole {t e : Nat} (he : e ≤ 21) (ht : t ≤ 4294967296) : upN t e ≤ 4294967296:=by
 have hd : 2 ^ e * 2 ^ (32 - e) = 4294967296:=by rw [← Nat.pow_add,show e + (32 - e) = 32 by omega]
 have:=up_least (x:=t) (e:=e) (k:=2 ^ (32 - e)) (by rw [Nat.mul_comm,hd]; exact ht)
 rw [Nat.mul_comm,hd] at this
 exact this
theorem fits_21 {b t : Nat} (ht : t ≤ 4294967296) : fitsN b t 21 = true:=by
 unfold fitsN
 have:=up_whole (e:=21) (by omega) ht
 simp only [rr, tt, decide_eq_true_eq]
 omega
theorem expoFrom_le (b t : Nat) : ∀ n e,expoFrom b t n e ≤ e + n:=by
 intro n
 induction n with
 | zero => intro e; exact Nat.le_refl _
 | succ n ih =>
  intro e
  unfold expoFrom
  split
  ·omega
  ·have:=ih (e + 1); omega
theorem expo_le (b t : Nat) : expoN b t ≤ 21:=by
 have:=expoFrom_le b t 21 0
 unfold expoN; omega
theorem expoFrom_fits (b t : Nat) : ∀ n e,(expoFrom b t n e = e + n ∨ fitsN b t (expoFrom b t n e) = true) ∧ ∀ j,e ≤ j → j < expoFrom b t n e → fitsN b t j = false:=by
 intro n
 induction n with
 | zero => intro e; exact ⟨.inl rfl,fun j h1 h2 => by simp [expoFrom] at h2; omega⟩
 | succ n ih =>
  intro e
  unfold expoFrom
  split
  ·rename_i h; exact ⟨.inr h,fun j h1 h2 => by omega⟩
  ·rename_i h
   obtain ⟨h1,h2⟩:=ih (e + 1)
   refine ⟨?_,fun j hj1 hj2 => ?_⟩
   ·rcases h1 with h1 | h1
    ·left; omega
    ·exact .inr h1
   ·rcases Nat.lt_or_ge j (e + 1) with hj | hj
    ·obtain rfl : j = e:=by omega
     simpa using h
    ·exact h2 j hj hj2
theorem expo_fits {b t : Nat} (ht : t ≤ 4294967296) : fitsN b t (expoN b t) = true:=by
 have:=(expoFrom_fits b t 21 0).1
 unfold expoN
 rcases this with h | h
 ·rw [h]; exact fits_21 ht
 ·exact h
theorem expo_least {b t j : Nat} (h : j < expoN b t) : fitsN b t j = false:=(expoFrom_fits b t 21 0).2 j (by omega) h
theorem expo_unique {b t k : Nat} (hk : fitsN b t k = true) (hl : ∀ j,j < k → fitsN b t j = false) (ht : t ≤ 4294967296) : expoN b t = k:=by
 rcases Nat.lt_trichotomy (expoN b t) k with h | h | h
 ·have:=hl _ h; rw [expo_fits ht] at this; cases this
 ·exact h
 ·have:=expo_least h; rw [hk] at this; cases this
theorem and_high (a e : Nat) (ha : a < 18446744073709551616) (he : e ≤ 64) : a &&& (18446744073709551615 - (2 ^ e - 1)) = a / 2 ^ e * 2 ^ e:=by
 have h0:=pow_pos2 e
 have h1 : 18446744073709551615 - (2 ^ e - 1) = 2 ^ 64 - ((2 ^ e - 1) + 1):=by
  have : 2 ^ e ≤ 2 ^ 64:=Nat.pow_le_pow_right (by omega) he
  omega
 rw [h1]
 apply Nat.eq_of_testBit_eq
 intro i
 have h2 : 2 ^ e ≤ 2 ^ 64:=Nat.pow_le_pow_right (by omega) he
 rw [Nat.testBit_and,Nat.testBit_two_pow_sub_succ (by omega),Nat.testBit_two_pow_sub_one,Nat.testBit_mul_two_pow,Nat.testBit_div_two_pow]
 by_cases hi : e ≤ i
 ·rw [Nat.sub_add_cancel hi]
  have e1 : decide (i < e) = false:=by simp; omega
  have e2 : decide (e ≤ i) = true:=by simpa using hi
  rw [e1,e2]
  by_cases h64 : i < 64
  ·have e3 : decide (i < 64) = true:=by simpa using h64
   rw [e3]; simp
  ·have : a.testBit i = false:=Nat.testBit_lt_two_pow (Nat.lt_of_lt_of_le ha (Nat.pow_le_pow_right (n:=2) (by omega) (show 64 ≤ i by omega)))
   rw [this]; simp
 ·have e1 : decide (i < e) = true:=by simp; omega
  have e2 : decide (e ≤ i) = false:=by simpa using hi
  rw [e1,e2]; simp
theorem edge_bits (b : Nat) (_hb : b < 4096) : bits .and .u16 (IntKind.u16.wrap ((b : Int) - 1024)) 4095 = ((edgeN b : Nat) : Int):=by
 have e : IntKind.u16.wrap ((b : Int) - 1024) = (((b + 64512) % 65536 : Nat) : Int):=by rw [IntKind.wrap_u16]; omega
 rw [e]
 have:=u16_and_nat ((b + 64512) % 65536) 4095 (by omega) (by omega)
 rw [nat_mask12] at this
 rw [show ((4095 : Int)) = ((4095 : Nat) : Int) from rfl,this]
 unfold edgeN; omega
theorem mid_bits (q : Nat) (hq : q < 4294967296) : bits .and .i64 (q : Int) 4095 = ((q % 4096 : Nat) : Int):=by
 have h1 : (BitVec.ofInt 64 (q : Int)).toNat = q:=by
  rw [BitVec.ofInt_natCast,BitVec.toNat_ofNat]; exact Nat.mod_eq_of_lt (by omega)
 show IntKind.i64.wrap ((BitVec.ofInt 64 (q : Int) &&& BitVec.ofInt 64 (4095 : Int)).toNat : Int) = _
 rw [BitVec.toNat_and,h1,show (BitVec.ofInt 64 (4095 : Int)).toNat = 4095 from rfl,nat_mask12,IntKind.wrap_i64]
 omega
theorem low_wrap {e : Nat} (he : e ≤ 21) : IntKind.u64.wrap (IntKind.u64.wrap ((2 : Int) ^ e) - 1) = ((2 ^ e - 1 : Nat) : Int):=by
 have hp:=pow_le_21 he
 have h0:=pow_pos2 e
 have e1 : ((2 : Int) ^ e) = ((2 ^ e : Nat) : Int):=by simp
 rw [e1,IntKind.wrap_u64,IntKind.wrap_u64]
 generalize 2 ^ e = u at hp h0
 omega
theorem andNot_dn (x e : Nat) (hx : x < 18446744073709551616) (he : e ≤ 21) : bits .andNot .u64 (x : Int) ((2 ^ e - 1 : Nat) : Int) = ((x / 2 ^ e * 2 ^ e : Nat) : Int):=by
 have hp:=pow_le_21 he
 rw [u64_andNot_nat x (2 ^ e - 1) hx (by omega),and_high x e hx (by omega)]
theorem u64_mask12 (x : Nat) (hx : x < 18446744073709551616) : bits .and .u64 (x : Int) 4095 = ((x % 4096 : Nat) : Int):=by
 have:=u64_and_nat x 4095 hx (by omega)
 rw [nat_mask12] at this
 exact this
theorem dn_div (b e : Nat) : dnN b e / 2 ^ e = b / 2 ^ e:=by
 unfold dnN; exact Nat.mul_div_cancel _ (pow_pos2 e)
def rightN (b t : Nat) : Bool:=decide (b ≤ t) && decide (t ≤ 4294967296)
end Go.Proofs.Ytliidiceljdgmaa
namespace Go.Proofs.Ytliidiceljdgmaa
open Go.RowKit
theorem ret2_both {k k' : IntKind} {a b c d : Int} (h : a = b) (h' : c = d) : Ending.returned (.tuple #[.int k a,.int k' c]) = .returned (.tuple #[.int k b,.int k' d]):=by rw [h,h']
theorem turn_any (x edge : Nat) (a : Addr) (w : World) (hc : w.cell? a = some (.int .u16 edge)) :
  Calls Try.prog 96 #[.int .u16 x,.pointer (some a)] w fun e w' => e = .returned (.int .i64 (turnN x edge : Nat)) ∧ w = w':=by
 by_cases h : (x : Int) < edge
 ·have e : turnN x edge = 1:=by unfold turnN; rw [if_pos (by omega)]
  rw [e]
  go_enter Try.func96,Try.ntmps96
  go_wp2
  go_ret
  exact ⟨rfl,rfl⟩
 ·have e : turnN x edge = 0:=by unfold turnN; rw [if_neg (by omega)]
  rw [e]
  go_enter Try.func96,Try.ntmps96
  go_wp2
  go_ret
  exact ⟨rfl,rfl⟩
theorem of_any (x b e c : Nat) (high r : Int) (edge : Nat) (hr : ofN e b c x = r) (hi : highN e b c = high) (hed : edgeN b = edge) (ah at_ ae ed : Addr) (w : World) (hx : x < 65536) (he : e ≤ 21) (hc : c < 4294967296)
  (h1 : w.cell? ah = some (.int .i64 high)) (h2 : w.cell? at_ = some (.func (.func 96) #[] #[.pointer (some ed)])) (h3 : w.cell? ae = some (.int .u8 e)) (h4 : w.cell? ed = some (.int .u16 edge)) :
  Calls Try.prog 97 #[.int .u16 x,.pointer (some ah),.pointer (some at_),.pointer (some ae)] w fun e' w' => e' = .returned (.int .i64 r) ∧ ∃ m,w' = w.drewN m:=by
 have hh:=high_bd (e:=e) (b:=b) hc
 have ho:=of_bd (e:=e) (b:=b) (x:=x) hc hx
 have ht:=turnN_le x (edgeN b)
 have hw:=mul_pow_bd he _ ho.1 ho.2
 have HO : Hid (wrap64 (((highN e b c + (turnN x (edgeN b) : Nat)) * 4096 + x) * 2 ^ e) = r):=by
  show _ = _
  rw [IntWalk.wrap64_in _ hw]; exact hr
 rw [hed] at ho ht HO
 rw [hi] at hh ho HO
 clear hw hed hi hr
 have ht2 : (0 : Int) ≤ (turnN x edge : Nat) ∧ ((turnN x edge : Nat) : Int) ≤ 1:=by omega
 go_enter Try.func97,Try.ntmps97
 go_wp2_with fail
 go_quiet ((go_at_call 96; refine quiet_left (turn_any x edge _ _ ?_); exact h4))
 go_wp2
 go_ret
 exact ⟨ret_int HO.out,_,rfl⟩
theorem tell_no (e b t c : Nat) (w : World) (h : mayN e b t = false) (hb : b < 65536) (ht : t < 65536) (he : e < 256) :
  Calls Try.prog 76 #[.int .u8 e,.int .u16 b,.int .u16 t,.int .u32 c] w fun e' w' => e' = .returned (.tuple #[.agg #[.int .i64 0,.int .i64 0],.bool false]) ∧ Below w.heap.size w w':=by
 have hcase : (21 : Int) < e ∨ ((e : Int) ≤ 21 ∧ (4095 : Int) < b) ∨ ((e : Int) ≤ 21 ∧ (b : Int) ≤ 4095 ∧ (4095 : Int) < t):=by
  by_cases h1 : e ≤ 21
  ·by_cases h2 : b < 4096
   ·by_cases h3 : t < 4096
    ·rw [mayN_mk h1 h2 h3] at h; cases h
    ·omega
   ·omega
  ·omega
 have H:=hide h; clear h
 rcases hcase with h1 | ⟨h1,h2⟩ | ⟨h1,h2,h3⟩
 ·go_enter Try.func76,Try.ntmps76
  go_wp2
  refine bodyPost_ret (v:=.tuple #[.agg #[.int .i64 0,.int .i64 0],.bool false]) (by simp [results,Try.results76,go_sem] <;> rfl) rfl ⟨rfl,?_⟩
  (repeat (first | exact Below.refl _ _ | refine Below.drew ?_ | refine below_drewN ?_ _ | refine Below.alloc ?_ (by simp <;> omega) _ | refine Below.setCell ?_ (by simp <;> omega) _))
 ·have d1 : decide ((21 : Int) < e) = false:=by simp; omega
  go_enter Try.func76,Try.ntmps76
  go_wp2
  refine bodyPost_ret (v:=.tuple #[.agg #[.int .i64 0,.int .i64 0],.bool false]) (by simp [results,Try.results76,go_sem] <;> rfl) rfl ⟨rfl,?_⟩
  (repeat (first | exact Below.refl _ _ | refine Below.drew ?_ | refine below_drewN ?_ _ | refine Below.alloc ?_ (by simp <;> omega) _ | refine Below.setCell ?_ (by simp <;> omega) _))
 ·have d1 : decide ((21 : Int) < e) = false:=by simp; omega
  have d2 : decide ((4095 : Int) < b) = false:=by simp; omega
  go_enter Try.func76,Try.ntmps76
  go_wp2
  refine bodyPost_ret (v:=.tuple #[.agg #[.int .i64 0,.int .i64 0],.bool false]) (by simp [results,Try.results76,go_sem] <;> rfl) rfl ⟨rfl,?_⟩
  (repeat (first | exact Below.refl _ _ | refine Below.drew ?_ | refine below_drewN ?_ _ | refine Below.alloc ?_ (by simp <;> omega) _ | refine Below.setCell ?_ (by simp <;> omega) _))
set_option maxHeartbeats 1000000 in
theorem tell_yes (e b t c : Nat) (w : World) (he : e ≤ 21) (hb : b < 4096) (ht0 : t < 4096) (hc : c < 4294967296) :
  Calls Try.prog 76 #[.int .u8 e,.int .u16 b,.int .u16 t,.int .u32 c] w fun e' w' => e' = .returned (.tuple #[.agg #[.int .i64 (tellB e b t c),.int .i64 (tellT e b t c)],.bool (tellOk e b t c)]) ∧ Below w.heap.size w w':=by
 obtain ⟨B,hB⟩ : ∃ B,ofN e b c b = B:=⟨_,rfl⟩
 obtain ⟨T,hT⟩ : ∃ T,ofN e b c t = T:=⟨_,rfl⟩
 have hmay:=mayN_mk he hb ht0
 have hok : tellOk e b t c = (decide (0 ≤ B) && decide (B ≤ T) && decide (T ≤ 4294967296)):=by
  unfold tellOk tellB tellT
  rw [hmay,if_pos rfl,if_pos rfl,hB,hT]; rfl
 have hB2 : tellB e b t c = B:=by unfold tellB; rw [if_pos hmay,hB]
 have hT2 : tellT e b t c = T:=by unfold tellT; rw [if_pos hmay,hT]
 rw [hok,hB2,hT2]
 clear hmay hok hB2 hT2
 have HB:=hide hB; clear hB
 have HT:=hide hT; clear hT
 have d1 : decide ((21 : Int) < e) = false:=by simp; omega
 have d2 : decide ((4095 : Int) < b) = false:=by simp; omega
 have d3 : decide ((4095 : Int) < t) = false:=by simp; omega
 obtain ⟨q,hq⟩ : ∃ q,c / 2 ^ e = q:=⟨_,rfl⟩
 have hql : q < 4294967296:=by rw [← hq]; exact Nat.lt_of_le_of_lt (Nat.div_le_self _ _) hc
 have hqi : (c : Int) / 2 ^ e = (q : Int):=by rw [← hq]; simp
 have hmb:=mid_bits q hql
 obtain ⟨m,hm⟩ : ∃ m,q % 4096 = m:=⟨_,rfl⟩
 have hml : m < 4096:=by omega
 have heb:=edge_bits b hb
 obtain ⟨edge,hed⟩ : ∃ k,edgeN b = k:=⟨_,rfl⟩
 have hel : edge < 4096:=by rw [← hed]; unfold edgeN; omega
 have ht:=turnN_le m edge
 have HH : Hid (highN e b c = (q : Int) / 4096 - (turnN m edge : Nat)):=by
  show _ = _
  unfold highN; rw [hq,hm,hed]; omega
 rw [hm] at hmb
 rw [hed] at heb
 have HQ:=hide hq; clear hq
 have HM:=hide hm; clear hm
 have HE:=hide hed; clear hed
 have ht2 : (0 : Int) ≤ (turnN m edge : Nat) ∧ ((turnN m edge : Nat) : Int) ≤ 1:=by omega
 go_enter Try.func76,Try.ntmps76
 go_wp2_with fail
 refine (turn_any m edge _ _ (by simp [go_sem])).mono ?_
 rintro e' w' ⟨rfl,rfl⟩
 go_wp2_with fail
 refine (of_any b b e c _ B edge HB.out HH.out HE.out _ _ _ ⟨w.heap.size + 1 + 1,0,none⟩ _ (by omega) he hc ?_ ?_ ?_ ?_).mono ?_
 ·simp [go_sem]
 ·simp [go_sem]
 ·simp [go_sem]
 ·simp [go_sem]
 rintro e' w' ⟨rfl,m1,rfl⟩
 go_wp2_with fail
 refine (of_any t b e c _ T edge HT.out HH.out HE.out _ _ _ ⟨w.heap.size + 1 + 1,0,none⟩ _ (by omega) he hc ?_ ?_ ?_ ?_).mono ?_
 ·simp [go_sem]
 ·simp [go_sem]
 ·simp [go_sem]
 ·simp [go_sem]
 rintro e' w' ⟨rfl,m2,rfl⟩
 go_wp2_with fail
 by_cases c1 : 0 ≤ B
 ·by_cases c2 : B ≤ T
  ·go_region
   go_wp2
   refine bodyPost_ret (v:=.tuple #[.agg #[.int .i64 B,.int .i64 T],.bool (decide (T ≤ 4294967296))]) (by simp [results,Try.results76,go_sem] <;> rfl) rfl ⟨?_,?_⟩
   ·simp [c1,c2]
   ·(repeat (first | exact Below.refl _ _ | refine Below.drew ?_ | refine below_drewN ?_ _ | refine Below.alloc ?_ (by simp <;> omega) _ | refine Below.setCell ?_ (by simp <;> omega) _))
  ·have d4 : decide (B ≤ T) = false:=by simpa using c2
   go_region
   go_wp2
   refine bodyPost_ret (v:=.tuple #[.agg #[.int .i64 B,.int .i64 T],.bool false]) (by simp [results,Try.results76,go_sem] <;> rfl) rfl ⟨?_,?_⟩
   ·simp
   ·(repeat (first | exact Below.refl _ _ | refine Below.drew ?_ | refine below_drewN ?_ _ | refine Below.alloc ?_ (by simp <;> omega) _ | refine Below.setCell ?_ (by simp <;> omega) _))
 ·have d4 : decide (0 ≤ B) = false:=by simpa using c1
  go_region
  go_wp2
  refine bodyPost_ret (v:=.tuple #[.agg #[.int .i64 B,.int .i64 T],.bool false]) (by simp [results,Try.results76,go_sem] <;> rfl) rfl ⟨?_,?_⟩
  ·simp
  ·(repeat (first | exact Below.refl _ _ | refine Below.drew ?_ | refine below_drewN ?_ _ | refine Below.alloc ?_ (by simp <;> omega) _ | refine Below.setCell ?_ (by simp <;> omega) _))
theorem tell_any (e b t c : Nat) (w : World) (he : e < 256) (hb : b < 65536) (ht : t < 65536) (hc : c < 4294967296) :
  Calls Try.prog 76 #[.int .u8 e,.int .u16 b,.int .u16 t,.int .u32 c] w fun e' w' => e' = .returned (.tuple #[.agg #[.int .i64 (tellB e b t c),.int .i64 (tellT e b t c)],.bool (tellOk e b t c)]) ∧ Below w.heap.size w w':=by
 by_cases h : mayN e b t = true
 ·obtain ⟨h1,h2,h3⟩:=mayN_true h
  exact tell_yes e b t c w h1 h2 h3 hc
 ·have h' : mayN e b t = false:=by simpa using h
  have e1 : tellB e b t c = 0:=by unfold tellB; rw [if_neg h]
  have e2 : tellT e b t c = 0:=by unfold tellT; rw [if_neg h]
  have e3 : tellOk e b t c = false:=by unfold tellOk; rw [h']; rfl
  rw [e1,e2,e3]
  exact tell_no e b t c w h' hb ht he
end Go.Proofs.Ytliidiceljdgmaa
namespace Go.Proofs.Ytliidiceljdgmaa
open Go.RowKit
theorem ret5_bool {a b c d : Value} {x y : Bool} (h : x = y) : Ending.returned (.tuple #[a,b,c,.bool x,d]) = .returned (.tuple #[a,b,c,.bool y,d]):=by rw [h]
theorem beq_cast (u t : Nat) : ((u : Int) == (t : Int)) = decide (u = t):=by
 rw [Bool.eq_iff_iff]; simp; omega
theorem results_tmp5 {fn : Func} {t u v x y : Tmp} (h : fn.results = #[.tmp t,.tmp u,.tmp v,.tmp x,.tmp y]) (tmps : Array Value) (P : Program) (w : World) :
  (results fn tmps).run P w = .ok (.tuple #[tmps.getD t undef,tmps.getD u undef,tmps.getD v undef,tmps.getD x undef,tmps.getD y undef]) w:=by simp [results,h]
theorem rounded_any (b t e : Nat) (w : World) (hb : b < 4294967296) (ht : t ≤ 4294967296) (he : e ≤ 21) :
  Calls Try.prog 95 #[.int .u32 b,.int .u64 t,.int .i64 e] w fun e' w' => e' = .returned (.tuple #[.int .u64 (dnN b e),.int .u64 (upN t e)]) ∧ w = w':=by
 have hp:=pow_le_21 he
 have h0:=pow_pos2 e
 have hlw:=low_wrap he
 have a1:=andNot_dn b e (by omega) he
 have a2:=andNot_dn (t + (2 ^ e - 1)) e (by omega) he
 obtain ⟨lo,hlo⟩ : ∃ lo,2 ^ e - 1 = lo:=⟨_,rfl⟩
 have hlb : lo ≤ 2097151:=by omega
 unfold dnN upN
 rw [hlo] at hlw a1 a2 ⊢
 have A1:=hide a1
 have A2:=hide a2
 clear a1 a2 hlo hp h0
 go_enter Try.func95,Try.ntmps95
 go_wp2
 go_ret2
 exact ⟨ret2_both A1.out A2.out,rfl⟩
theorem right_no (b t : Nat) (w : World) (hb : b < 4294967296) (ht : t < 18446744073709551616) (h : rightN b t = false) :
  Calls Try.prog 93 #[.int .u32 b,.int .u64 t] w fun e' w' => e' = .returned (.bool false) ∧ w = w':=by
 have hcase : (t : Int) < b ∨ ((b : Int) ≤ t ∧ (4294967296 : Int) < t):=by
  simp only [rr, tt, rightN,Bool.and_eq_false_iff,decide_eq_false_iff_not] at h; omega
 rcases hcase with h1 | ⟨h1,h2⟩
 ·have d1 : decide ((b : Int) ≤ t) = false:=by simp; omega
  go_enter Try.func93,Try.ntmps93
  go_wp2
  go_ret
  exact ⟨rfl,rfl⟩
 ·have d1 : decide ((t : Int) ≤ 4294967296) = false:=by simp; omega
  go_enter Try.func93,Try.ntmps93
  go_wp2
  go_ret
  exact ⟨rfl,rfl⟩
theorem right_yes (b t : Nat) (w : World) (h1 : b ≤ t) (h2 : t ≤ 4294967296) :
  Calls Try.prog 93 #[.int .u32 b,.int .u64 t] w fun e' w' => e' = .returned (.bool true) ∧ w = w':=by
 have d1 : (b : Int) ≤ t:=by omega
 have d2 : (t : Int) ≤ 4294967296:=by omega
 have d3 : decide ((t : Int) ≤ 4294967296) = true:=by simpa using d2
 go_enter Try.func93,Try.ntmps93
 go_wp2
 go_ret
 exact ⟨by first | rfl | simp [d2],rfl⟩
theorem exponent_any (b t : Nat) (w : World) (hb : b < 4294967296) (hbt : b ≤ t) (ht : t ≤ 4294967296) :
  Calls Try.prog 94 #[.int .u32 b,.int .u64 t] w fun e' w' => e' = .returned (.int .i64 (expoN b t)) ∧ w = w':=by
 go_enter Try.func94,Try.ntmps94
 go_wp2
 go_loop [8] (fun i => ∃ k : Nat,k ≤ 21 ∧ i = .int .i64 k ∧ Hid (expoN b t = expoFrom b t (21 - k) k)) (fun i => (21 - intOf i).toNat)
 case atStart => exact ⟨0,by omega,rfl,rfl⟩
 case round =>
  obtain ⟨k,hk,rfl,HE⟩:=hrel
  by_cases h0 : k < 21
  ·have hd1:=dn_le b k
   have hd2:=up_ge t k
   have hd3:=up_lt t k
   have hp:=pow_le_21 hk
   have hle : dnN b k ≤ upN t k:=by omega
   have hul : upN t k ≤ 4294967296 + 2097152:=by omega
   have hpw : IntKind.u64.wrap ((2048 : Int) * 2 ^ k) = ((2048 * 2 ^ k : Nat) : Int):=by
    rw [IntKind.wrap_u64,show ((2 : Int) ^ k) = ((2 ^ k : Nat) : Int) by simp]; omega
   obtain ⟨p,hpp⟩ : ∃ p,2048 * 2 ^ k = p:=⟨_,rfl⟩
   obtain ⟨d,hd⟩ : ∃ d,dnN b k = d:=⟨_,rfl⟩
   obtain ⟨u,hu⟩ : ∃ u,upN t k = u:=⟨_,rfl⟩
   have hra:=fun W => rounded_any b t k W hb ht hk
   have HF : Hid (fitsN b t k = decide (u - d ≤ p)):=by show _ = _; unfold fitsN; rw [hpp,hd,hu]
   rw [hd,hu] at hra hle
   rw [hu] at hul
   rw [hpp] at hpw
   have HRA:=hide hra
   clear hra hpp hd hu hd1 hd2 hd3 hp
   by_cases hf : (u : Int) - d ≤ p
   ·go_wp2_with (go_at_call 95; refine (HRA.out _).mono ?_; rintro e' w' ⟨rfl,rfl⟩)
    go_ret
    refine ⟨ret_int ?_,rfl⟩
    have hft : fitsN b t k = true:=by rw [HF.out]; simp; omega
    rw [HE.out,show 21 - k = (20 - k) + 1 by omega,expoFrom,if_pos hft]
   ·go_wp2_with (go_at_call 95; refine (HRA.out _).mono ?_; rintro e' w' ⟨rfl,rfl⟩)
    have hft : fitsN b t k = false:=by rw [HF.out]; simp; omega
    have HT : Hid (expoN b t = expoFrom b t (21 - (k + 1)) (k + 1)):=by
     show _ = _
     rw [HE.out,show 21 - k = (21 - (k + 1)) + 1 by omega,expoFrom,hft]; rfl
    go_round
    case rel => exact ⟨k + 1,by omega,by go_num,HT⟩
    case measure => simp [intOf]; omega
  ·go_wp2
   go_ret
   obtain rfl : k = 21:=by omega
   exact ⟨ret_int (by rw [HE.out]; rfl),rfl⟩
def encE (b t : Nat) : Nat:=if rightN b t then expoN b t else 0
def encB (b t : Nat) : Nat:=if rightN b t then b / 2 ^ expoN b t % 4096 else 0
def encT (b t : Nat) : Nat:=if rightN b t then upN t (expoN b t) / 2 ^ expoN b t % 4096 else 0
def encX (b t : Nat) : Bool:=rightN b t && decide (dnN b (expoN b t) = b) && decide (upN t (expoN b t) = t)
theorem rightN_true {b t : Nat} (h : rightN b t = true) : b ≤ t ∧ t ≤ 4294967296:=by
 simpa [rightN] using h
theorem encode_any (b t : Nat) (w : World) (hb : b < 4294967296) (ht : t < 18446744073709551616) :
  Calls Try.prog 74 #[.int .u32 b,.int .u64 t] w fun e' w' => e' = .returned (.tuple #[.int .u8 (encE b t),.int .u16 (encB b t),.int .u16 (encT b t),.bool (encX b t),.bool (rightN b t)]) ∧ ∃ m,w' = w.drewN m:=by
 by_cases hr : rightN b t = true
 ·obtain ⟨h1,h2⟩:=rightN_true hr
  unfold encE encB encT encX
  rw [hr,if_pos rfl,if_pos rfl,if_pos rfl]
  have hex:=fun W => exponent_any b t W hb h1 h2
  have hk:=expo_le b t
  have hra:=fun W => rounded_any b t (expoN b t) W hb h2 hk
  obtain ⟨k,hkk⟩ : ∃ k,expoN b t = k:=⟨_,rfl⟩
  rw [hkk] at hk hex hra ⊢
  have hd1:=dn_le b k
  have hd3:=up_lt t k
  have hp:=pow_le_21 hk
  obtain ⟨x,hx⟩ : ∃ x,b / 2 ^ k = x:=⟨_,rfl⟩
  have hdx:=dn_div b k
  rw [hx] at hdx ⊢
  obtain ⟨d,hd⟩ : ∃ d,dnN b k = d:=⟨_,rfl⟩
  obtain ⟨u,hu⟩ : ∃ u,upN t k = u:=⟨_,rfl⟩
  rw [hd] at hdx hd1 hra ⊢
  rw [hu] at hd3 hra ⊢
  obtain ⟨y,hy⟩ : ∃ y,u / 2 ^ k = y:=⟨_,rfl⟩
  rw [hy]
  have hxl : x < 4294967296:=by rw [← hx]; exact Nat.lt_of_le_of_lt (Nat.div_le_self _ _) hb
  have hyl : y ≤ 4297064448:=by rw [← hy]; exact Nat.le_trans (Nat.div_le_self _ _) (by omega)
  have i1 : (d : Int) / 2 ^ k = (x : Int):=by rw [← hdx]; simp
  have i2 : (u : Int) / 2 ^ k = (y : Int):=by rw [← hy]; simp
  have i3:=u64_mask12 x (by omega)
  have i4:=u64_mask12 y (by omega)
  obtain ⟨xm,hxm⟩ : ∃ m,x % 4096 = m:=⟨_,rfl⟩
  obtain ⟨ym,hym⟩ : ∃ m,y % 4096 = m:=⟨_,rfl⟩
  have hxml : xm < 4096:=by omega
  have hyml : ym < 4096:=by omega
  rw [hxm] at i3 ⊢
  rw [hym] at i4 ⊢
  have HX:=hide hex
  have HRA:=hide hra
  clear hkk hx hdx hd hu hy hxl hyl hxm hym hp hd1 hd3 hex hra hr
  by_cases c1 : d = b
  ·have d1 : ((d : Int) == b) = true:=by rw [c1]; simp
   have C1:=hide c1
   clear c1
   go_enter Try.func74,Try.ntmps74
   go_wp2_with (first
    | (go_at_call 93; refine (right_yes b t _ h1 h2).mono ?_; rintro e' w' ⟨rfl,rfl⟩)
    | (go_at_call 94; refine (HX.out _).mono ?_; rintro e' w' ⟨rfl,rfl⟩)
    | (go_at_call 95; refine (HRA.out _).mono ?_; rintro e' w' ⟨rfl,rfl⟩))
   go_quiet (fail)
   go_wp2
   refine bodyPost_ret (results_tmp5 rfl _ _ _) rfl ⟨?_,_,rfl⟩
   have c:=C1.out
   simp only [rr, tt, c,decide_true,Bool.true_and]
   exact ret5_bool (beq_cast u t)
  ·have d1 : ((d : Int) == b) = false:=by simp; omega
   have C1:=hide c1
   clear c1
   go_enter Try.func74,Try.ntmps74
   go_wp2_with (first
    | (go_at_call 93; refine (right_yes b t _ h1 h2).mono ?_; rintro e' w' ⟨rfl,rfl⟩)
    | (go_at_call 94; refine (HX.out _).mono ?_; rintro e' w' ⟨rfl,rfl⟩)
    | (go_at_call 95; refine (HRA.out _).mono ?_; rintro e' w' ⟨rfl,rfl⟩))
   go_quiet (fail)
   go_wp2
   refine bodyPost_ret (results_tmp5 rfl _ _ _) rfl ⟨?_,_,rfl⟩
   have c:=C1.out
   simp only [rr, tt, c,decide_false,Bool.and_false,Bool.false_and]
   rfl
 ·have hr' : rightN b t = false:=by simpa using hr
  unfold encE encB encT encX
  rw [hr',if_neg (by simp),if_neg (by simp),if_neg (by simp)]
  have HR:=hide hr'
  clear hr hr'
  go_enter Try.func74,Try.ntmps74
  go_wp2_with (go_at_call 93; refine (right_no b t _ hb ht HR.out).mono ?_; rintro e' w' ⟨rfl,rfl⟩)
  refine bodyPost_ret (results_tmp5 rfl _ _ _) rfl ⟨rfl,0,rfl⟩
def padN (s : Nat) : Nat:=if upN s (expoN 0 s) = 4294967296 then 0 else upN s (expoN 0 s)
def padA (s : Nat) : Nat:=if upN s (expoN 0 s) = 4294967296 then 0 else 2 ^ expoN 0 s
theorem pad_any (s : Nat) (w : World) (hs : s < 4294967296) :
  Calls Try.prog 92 #[.int .u32 s] w fun e' w' => e' = .returned (.tuple #[.int .u32 (padN s),.int .u32 (padA s)]) ∧ ∃ m,w' = w.drewN m:=by
 have hex:=fun W => exponent_any 0 s W (by omega) (by omega) (by omega)
 have hk:=expo_le 0 s
 have hra:=fun W => rounded_any 0 s (expoN 0 s) W (by omega) (by omega) hk
 have hd0 : dnN 0 (expoN 0 s) = 0:=by unfold dnN; simp
 unfold padN padA
 obtain ⟨k,hkk⟩ : ∃ k,expoN 0 s = k:=⟨_,rfl⟩
 rw [hkk] at hk hex hra hd0 ⊢
 have hw:=up_whole (t:=s) hk (by omega)
 have hp:=pow_le_21 hk
 obtain ⟨u,hu⟩ : ∃ u,upN s k = u:=⟨_,rfl⟩
 rw [hd0] at hra
 rw [hu] at hra hw ⊢
 have hpw : IntKind.u32.wrap ((2 : Int) ^ k) = ((2 ^ k : Nat) : Int):=by
  rw [IntKind.wrap_u32,show ((2 : Int) ^ k) = ((2 ^ k : Nat) : Int) by simp]
  generalize 2 ^ k = z at hp
  omega
 obtain ⟨p,hpp⟩ : ∃ p,2 ^ k = p:=⟨_,rfl⟩
 rw [hpp] at hpw ⊢
 have HX:=hide hex
 have HRA:=hide hra
 clear hkk hex hra hu hd0 hpp hp
 by_cases c1 : u = 4294967296
 ·rw [if_pos c1,if_pos c1]
  have d1 : ((u : Int) == 4294967296) = true:=by rw [c1]; rfl
  clear c1
  go_enter Try.func92,Try.ntmps92
  go_wp2_with (first
    | (go_at_call 94; refine (HX.out _).mono ?_; rintro e' w' ⟨rfl,rfl⟩)
    | (go_at_call 95; refine (HRA.out _).mono ?_; rintro e' w' ⟨rfl,rfl⟩))
  go_ret2
  exact ⟨rfl,0,rfl⟩
 ·rw [if_neg c1,if_neg c1]
  have d1 : ((u : Int) == 4294967296) = false:=by simp; omega
  have d2 : (u : Int) < 4294967296:=by omega
  clear c1
  go_enter Try.func92,Try.ntmps92
  go_wp2_with (first
    | (go_at_call 94; refine (HX.out _).mono ?_; rintro e' w' ⟨rfl,rfl⟩)
    | (go_at_call 95; refine (HRA.out _).mono ?_; rintro e' w' ⟨rfl,rfl⟩))
  go_quiet (fail)
  go_wp2
  go_ret2
  exact ⟨rfl,_,rfl⟩
end Go.Proofs.Ytliidiceljdgmaa
namespace Go.Proofs.Ytliidiceljdgmaa
open Go.RowKit
theorem run_equalIn_arr2 {P : Program} (d : Nat) (t e : TypeId) (i : TypeInfo) (k k' : IntKind) (ht : P.underlying t = some (.array 2 e)) (he : P.underlying e = some (.int k')) (hi : P.info? e = some i) (hsz : i.size = 1) (a b c f : Int) (w : World) :
  (Op.equalIn (d + 2) t (.agg #[.int k a,.int k b]) (.agg #[.int k c,.int k f])).run P w = .ok (a == c && b == f) w:=by
 have hp1 : ∀ (x y : Value) W,(part e #[x,y] 0).run P W = .ok x W:=fun x y W => by simp [part,isAgg,run_underlying he]
 have hp2 : ∀ (x y : Value) W,(part e #[x,y] 1).run P W = .ok y W:=fun x y W => by simp [part,isAgg,run_underlying he]
 have he2 : ∀ (x y : Int) W,(Op.equalIn (d + 1) e (.int k x) (.int k y)).run P W = .ok (x == y) W:=fun x y W => run_equalIn_int W d e k k' x y he
 unfold Op.equalIn
 simp only [rr, tt, Sem.run_bind,run_underlying ht,Result.andThen_ok,sizeOf,typeInfo,Std.Legacy.Range.forIn_eq_forIn_range',Std.Legacy.Range.size]
 simp [hi,hsz,List.range',hp1,hp2,he2]
 by_cases h1 : a = c <;> by_cases h2 : b = f <;> simp [h1,h2]
theorem i64_info : (Try.prog.info? 2).map (fun i => (i.zero,i.size,i.bytes)) = some (some (.int .i64 0),1,8):=by kernel_rfl
def decN (e b t c : Nat) : Nat × Nat:=if tellOk e b t c = true ∧ tellB e b t c ≠ 4294967296 then ((tellB e b t c).toNat,(tellT e b t c).toNat) else (0,0)
def keepsN (e b t c n : Nat) : Bool:=tellOk e b t c && decide (tellB e b t c = tellB e b t n) && decide (tellT e b t c = tellT e b t n)
theorem tellOk_true {e b t c : Nat} (h : tellOk e b t c = true) : 0 ≤ tellB e b t c ∧ tellB e b t c ≤ tellT e b t c ∧ tellT e b t c ≤ 4294967296:=by
 simp only [rr, tt, tellOk,Bool.and_eq_true,decide_eq_true_eq] at h
 exact ⟨h.1.1.2,h.1.2,h.2⟩
theorem decode_any (e b t c : Nat) (w : World) (he : e < 256) (hb : b < 65536) (ht : t < 65536) (hc : c < 4294967296) :
  Calls Try.prog 54 #[.int .u8 e,.int .u16 b,.int .u16 t,.int .u32 c] w fun e' w' => e' = .returned (.tuple #[.int .u32 (decN e b t c).1,.int .u64 (decN e b t c).2]) ∧ Below w.heap.size w w':=by
 have hta:=fun W => tell_any e b t c W he hb ht hc
 by_cases h1 : tellOk e b t c = true
 ·obtain ⟨k0,k1,k2⟩:=tellOk_true h1
  obtain ⟨B,hB⟩ : ∃ B : Nat,tellB e b t c = B:=⟨(tellB e b t c).toNat,by omega⟩
  obtain ⟨T,hT⟩ : ∃ T : Nat,tellT e b t c = T:=⟨(tellT e b t c).toNat,by omega⟩
  simp only [rr, tt, h1,hB,hT] at hta
  rw [hB,hT] at k1
  rw [hT] at k2
  by_cases h2 : (B : Int) = 4294967296
  ·have hd : decN e b t c = (0,0):=by unfold decN; rw [if_neg (by rw [hB]; exact fun h => h.2 h2)]
   rw [hd]
   have h3 : ((B : Int) == 4294967296) = true:=by simpa using h2
   have HTA:=hide hta
   clear hta h2 k0 k1 k2 h1 hB hT hd
   go_enter Try.func54,Try.ntmps54
   go_wp2_with (go_at_call 76; refine (HTA.out _).mono ?_; rintro e' w1 ⟨rfl,hb1⟩; have HB1:=hide hb1; clear hb1)
   go_ret2
   exact ⟨rfl,HB1.out.alloc HB1.out.size _⟩
  ·have hd : decN e b t c = (B,T):=by unfold decN; rw [if_pos ⟨h1,by rw [hB]; exact h2⟩,hB,hT]; rfl
   rw [hd]
   have h3 : ((B : Int) == 4294967296) = false:=by simpa using h2
   have HTA:=hide hta
   have k3 : (B : Int) < 4294967296:=by omega
   clear hta h2 h1 hB hT hd
   go_enter Try.func54,Try.ntmps54
   go_wp2_with (go_at_call 76; refine (HTA.out _).mono ?_; rintro e' w1 ⟨rfl,hb1⟩; have HB1:=hide hb1; clear hb1)
   go_quiet (fail)
   go_wp2
   go_ret2
   exact ⟨rfl,below_drewN (HB1.out.alloc HB1.out.size _) _⟩
 ·have h1' : tellOk e b t c = false:=by simpa using h1
  have hd : decN e b t c = (0,0):=by unfold decN; rw [if_neg (fun h => h1 h.1)]
  rw [hd]
  simp only [rr, tt, h1'] at hta
  have HTA:=hide hta
  clear hta h1 h1' hd
  go_enter Try.func54,Try.ntmps54
  go_wp2_with (go_at_call 76; refine (HTA.out _).mono ?_; rintro e' w1 ⟨rfl,hb1⟩; have HB1:=hide hb1; clear hb1)
  go_ret2
  exact ⟨rfl,HB1.out.alloc HB1.out.size _⟩
theorem keeps_any (e b t c n : Nat) (w : World) (he : e < 256) (hb : b < 65536) (ht : t < 65536) (hc : c < 4294967296) (hn : n < 4294967296) :
  Calls Try.prog 89 #[.int .u8 e,.int .u16 b,.int .u16 t,.int .u32 c,.int .u32 n] w fun e' w' => e' = .returned (.bool (keepsN e b t c n)) ∧ Below w.heap.size w w':=by
 have hta:=fun W => tell_any e b t c W he hb ht hc
 have htb:=fun W => tell_any e b t n W he hb ht hn
 unfold keepsN
 obtain ⟨B,hB⟩ : ∃ B,tellB e b t c = B:=⟨_,rfl⟩
 obtain ⟨T,hT⟩ : ∃ T,tellT e b t c = T:=⟨_,rfl⟩
 obtain ⟨B',hB'⟩ : ∃ B,tellB e b t n = B:=⟨_,rfl⟩
 obtain ⟨T',hT'⟩ : ∃ T,tellT e b t n = T:=⟨_,rfl⟩
 obtain ⟨k,hk⟩ : ∃ k,tellOk e b t c = k:=⟨_,rfl⟩
 obtain ⟨k',hk'⟩ : ∃ k,tellOk e b t n = k:=⟨_,rfl⟩
 rw [hB,hT,hk] at hta
 rw [hB',hT',hk'] at htb
 rw [hB,hT,hB',hT',hk]
 have HTA:=hide hta
 have HTB:=hide htb
 obtain ⟨i0,hi,hz0,hz1,hz2⟩:=info_parts i64_info
 have heq:=fun (x y : Int) W => run_equalIn_arr2 (P:=Try.prog) 9998 129 2 i0 .i64 .i64 Try.underlying129 Try.underlying2 hi hz1 B T x y W
 clear hz0 hz1 hz2 hi
 clear hta htb hB hT hB' hT' hk hk'
 rcases k with _ | _
 ·go_enter Try.func89,Try.ntmps89
  go_wp2_with fail
  refine (HTA.out _).mono ?_
  rintro e' w1 ⟨rfl,hb1⟩
  have HB1:=hide hb1; clear hb1
  go_wp2_with fail
  refine (HTB.out _).mono ?_
  rintro e' w2 ⟨rfl,hb2⟩
  have HB2:=hide hb2; clear hb2
  go_wp2
  go_ret
  exact ⟨rfl,(((HB1.out.alloc HB1.out.size _).trans (HB2.out.mono (by have:=HB1.out.size; simp; omega))).alloc (by have:=HB1.out.size; have:=HB2.out.size; simp at this; omega) _)⟩
 ·go_enter Try.func89,Try.ntmps89
  go_wp2_with fail
  refine (HTA.out _).mono ?_
  rintro e' w1 ⟨rfl,hb1⟩
  have HB1:=hide hb1; clear hb1
  go_wp2_with fail
  refine (HTB.out _).mono ?_
  rintro e' w2 ⟨rfl,hb2⟩
  have f0 : w2.cell? ⟨w1.heap.size,0,none⟩ = some (.int .i64 B):=(hb2.cell (p:=⟨w1.heap.size,0,none⟩) (by simp)).trans (cell_of_row _ _ 0 _ _ _ (heap_alloc_new w1 _))
  have f1 : w2.cell? ⟨w1.heap.size,1,none⟩ = some (.int .i64 T):=(hb2.cell (p:=⟨w1.heap.size,1,none⟩) (by simp)).trans (cell_of_row _ _ 1 _ _ _ (heap_alloc_new w1 _))
  have hs : w1.heap.size < w2.heap.size:=by have:=hb2.size; simp at this; omega
  have HB2:=hide hb2; clear hb2
  go_wp2
  go_ret
  refine ⟨ret_bool ?_,(((HB1.out.alloc HB1.out.size _).trans (HB2.out.mono (by have:=HB1.out.size; simp; omega))).alloc (by have:=HB1.out.size; have:=HB2.out.size; simp at this; omega) _)⟩
  simp [Bool.beq_eq_decide_eq]
end Go.Proofs.Ytliidiceljdgmaa
namespace Go.Proofs.Ytliidiceljdgmaa
open Go.RowKit
theorem Blk.new2 (w : World) (o : Obj) (t : TypeId) (cs : Array Value) : Blk ((w.alloc o).alloc (.cells cs t)) (w.heap.size + 1) t cs:=by
 have:=Blk.new (w.alloc o) t cs
 rwa [show (w.alloc o).heap.size = w.heap.size + 1 by simp] at this
theorem Blk.new1 (w : World) (o : Obj) (t : TypeId) (cs : Array Value) : Blk ((w.alloc (.cells cs t)).alloc o) w.heap.size t cs:=(Blk.new w t cs).alloc o
def meetsN (b t a s : Nat) : Bool:=decide (max b a < min t (a + s))
def subP (p q : Nat) : Bool:=decide (p &&& q = p)
def inN (b t l h : Nat) : Bool:=decide (t ≤ b) || (decide (l ≤ b) && decide (t ≤ h))
theorem and_or_not {p q : Nat} (hp : p < 65536) (hq : q < 65536) : (p &&& (65535 - q) = 0) ↔ p &&& q = p:=by
 have h1 : 65535 - q = q ^^^ 65535:=by
  refine Nat.eq_of_testBit_eq fun i => ?_
  rw [Nat.testBit_xor,show 65535 - q = 2 ^ 16 - (q + 1) by omega,Nat.testBit_two_pow_sub_succ (by omega),show 65535 = 2 ^ 16 - 1 by rfl,Nat.testBit_two_pow_sub_one]
  by_cases hi : i < 16
  ·simp [hi]
  ·have : q.testBit i = false:=Nat.testBit_lt_two_pow (Nat.lt_of_lt_of_le hq (Nat.pow_le_pow_right (n:=2) (i:=16) (by omega) (by omega)))
   simp [hi,this]
 have hb : ∀ i,16 ≤ i → p.testBit i = false:=fun i hi => Nat.testBit_lt_two_pow (Nat.lt_of_lt_of_le hp (Nat.pow_le_pow_right (n:=2) (i:=16) (by omega) hi))
 constructor
 ·intro h
  refine Nat.eq_of_testBit_eq fun i => ?_
  have hi:=congrArg (fun n => n.testBit i) h
  simp only [rr, tt, h1,Nat.testBit_and,Nat.testBit_xor,show 65535 = 2 ^ 16 - 1 by rfl,Nat.testBit_two_pow_sub_one,Nat.zero_testBit] at hi
  rw [Nat.testBit_and]
  by_cases h16 : i < 16
  ·simp only [rr, tt, h16,decide_true] at hi
   cases hpb : p.testBit i <;> cases hqb : q.testBit i <;> simp_all
  ·rw [hb i (by omega)]; rfl
 ·intro h
  refine Nat.eq_of_testBit_eq fun i => ?_
  have hi:=congrArg (fun n => n.testBit i) h
  simp only [rr, tt, Nat.testBit_and] at hi
  simp only [rr, tt, h1,Nat.testBit_and,Nat.testBit_xor,show 65535 = 2 ^ 16 - 1 by rfl,Nat.testBit_two_pow_sub_one,Nat.zero_testBit]
  by_cases h16 : i < 16
  ·cases hpb : p.testBit i <;> cases hqb : q.testBit i <;> simp_all
  ·rw [hb i (by omega)]; rfl
theorem sub_not {p q : Nat} (hp : p < 65536) (hq : q < 65536) : (bits .andNot .u16 (p : Int) (q : Int) == 0) = subP p q:=by
 rw [u16_andNot_nat p q hp hq,Bool.eq_iff_iff]
 unfold subP
 rw [decide_eq_true_eq,← and_or_not hp hq]
 simp <;> omega
def capB (aC aE aB aT aP aY aR : Nat) : Prop:=aC < 4294967296 ∧ aE < 256 ∧ aB < 65536 ∧ aT < 65536 ∧ aP < 65536 ∧ aY < 65536 ∧ aR < 4294967296
theorem dec_lt (e b t c : Nat) : (decN e b t c).1 < 4294967296 ∧ (decN e b t c).2 ≤ 4294967296 ∧ (decN e b t c).1 ≤ (decN e b t c).2:=by
 unfold decN
 split
 ·rename_i h
  have h1:=tellOk_true h.1
  have h2:=h.2
  simp only
  omega
 ·simp
theorem capS : Try.prog.stoodInHeld 33 = false:=by kernel_rfl
end Go.Proofs.Ytliidiceljdgmaa
namespace Go.Proofs.Ytliidiceljdgmaa
open Go.RowKit
attribute [local go_sem ↓] Go.wp_at_zero Go.wp_at_succ
theorem range_any (cC cE cB cT cP cY cR : Nat) (cV : Bool) (w : World) (cl : capB cC cE cB cT cP cY cR) :
  Calls Try.prog 23 #[.agg #[.int .u32 cC,.int .u8 cE,.int .u16 cB,.int .u16 cT,.int .u16 cP,.int .u16 cY,.int .u32 cR,.bool cV]] w fun e' w' => e' = .returned (.tuple #[.int .u32 (decN cE cB cT cC).1,.int .u64 (decN cE cB cT cC).2]) ∧ Below w.heap.size w w':=by
 have HD : Hid (∀ W,Calls Try.prog 54 #[.int .u8 cE,.int .u16 cB,.int .u16 cT,.int .u32 cC] W fun e' w' => e' = .returned (.tuple #[.int .u32 (decN cE cB cT cC).1,.int .u64 (decN cE cB cT cC).2]) ∧ Below W.heap.size W w'):=fun W => decode_any cE cB cT cC W cl.2.1 cl.2.2.1 cl.2.2.2.1 cl.1
 obtain ⟨x,hx⟩ : ∃ x,(decN cE cB cT cC).1 = x:=⟨_,rfl⟩
 obtain ⟨y,hy⟩ : ∃ y,(decN cE cB cT cC).2 = y:=⟨_,rfl⟩
 rw [hx,hy] at HD ⊢
 clear hx hy
 go_enter Try.func23,Try.ntmps23
 go_wp2_with fail
 refine (HD.out _).mono ?_
 rintro e' w1 ⟨rfl,hb1⟩
 have HB1:=hide hb1; clear hb1
 go_wp2
 go_ret2
 exact ⟨rfl,((Below.refl _ _).alloc (Nat.le_refl _) _).trans (HB1.out.mono (by simp))⟩
theorem end_any (a s : Nat) (w : World) (ha : a < 4294967296) (hs : s < 4294967296) :
  Calls Try.prog 51 #[.agg #[.int .u32 a,.int .u32 s]] w fun e' w' => e' = .returned (.int .u64 ((a : Int) + s)) ∧ Below w.heap.size w w':=by
 go_enter Try.func51,Try.ntmps51
 go_wp2
 go_ret
 exact ⟨rfl,by (repeat (first | exact Below.refl _ _ | refine Below.drew ?_ | refine below_drewN ?_ _ | refine Below.alloc ?_ (by simp <;> omega) _ | refine Below.setCell ?_ (by simp <;> omega) _))⟩
theorem range_is (cC cE cB cT cP cY cR : Nat) (cV : Bool) (x y : Nat) (w : World) (cl : capB cC cE cB cT cP cY cR) (hx : (decN cE cB cT cC).1 = x) (hy : (decN cE cB cT cC).2 = y) :
  Calls Try.prog 23 #[.agg #[.int .u32 cC,.int .u8 cE,.int .u16 cB,.int .u16 cT,.int .u16 cP,.int .u16 cY,.int .u32 cR,.bool cV]] w fun e' w' => e' = .returned (.tuple #[.int .u32 x,.int .u64 y]) ∧ Below w.heap.size w w':=by
 rw [← hx,← hy]; exact range_any cC cE cB cT cP cY cR cV w cl
theorem w64 (a : Nat) (h : a < 4294967296) : IntKind.u64.wrap (a : Int) = a:=by rw [IntKind.wrap_u64]; omega
theorem meets_11 (cC cE cB cT cP cY cR : Nat) (cV : Bool) (a s x y : Nat) (w : World) (ha : a < 4294967296) (hs : s < 4294967296) (hx4 : x < 4294967296)
  (HR : Hid (∀ W,Calls Try.prog 23 #[.agg #[.int .u32 cC,.int .u8 cE,.int .u16 cB,.int .u16 cT,.int .u16 cP,.int .u16 cY,.int .u32 cR,.bool cV]] W fun e' w' => e' = .returned (.tuple #[.int .u32 x,.int .u64 y]) ∧ Below W.heap.size W w')) (c1 : (x : Int) < a) (c2 : (a : Int) + s < y) :
  Calls Try.prog 19 #[.agg #[.int .u32 cC,.int .u8 cE,.int .u16 cB,.int .u16 cT,.int .u16 cP,.int .u16 cY,.int .u32 cR,.bool cV],.agg #[.int .u32 a,.int .u32 s]] w fun e' w' => e' = .returned (.bool (decide (((a : Int) : Int) < (a : Int) + s))) ∧ Below w.heap.size w w':=by
 have wa:=w64 a ha
 have wx:=w64 x hx4
 go_enter Try.func19,Try.ntmps19
 go_wp2_with fail
 refine (HR.out _).mono ?_
 rintro e' w1 ⟨rfl,hb1⟩
 have hz1:=hb1.size
 simp at hz1
 have f0 : w1.cell? ⟨w.heap.size + 1,0,none⟩ = some (.int .u32 a):=(hb1.cell (p:=⟨w.heap.size + 1,0,none⟩) (by simp)).trans (by simp)
 have f1 : w1.cell? ⟨w.heap.size + 1,1,none⟩ = some (.int .u32 s):=(hb1.cell (p:=⟨w.heap.size + 1,1,none⟩) (by simp)).trans (by simp)
 have HB1:=hide hb1; clear hb1
 go_wp2_with fail
 go_region_held3 (fun w' => w'.cell? ⟨w.heap.size + 1,0,none⟩ = some (.int .u32 a) ∧ w'.cell? ⟨w.heap.size + 1,1,none⟩ = some (.int .u32 s)) (first | go_keep | exact ⟨(hb2.cell (p:=⟨w.heap.size + 1,0,none⟩) hz1).trans f0,(hb2.cell (p:=⟨w.heap.size + 1,1,none⟩) hz1).trans f1⟩)
  ((go_at_call 51; refine (end_any a s _ ha hs).mono ?_; rintro e' w2 ⟨rfl,hb2⟩))
 all_goals
  have HB2:=hide hb2; clear hb2
  go_wp2
  go_ret
  exact ⟨rfl,((((Below.refl _ _).alloc (Nat.le_refl _) _).alloc (by simp) _).trans (HB1.out.mono (by simp; omega))).trans ((below_of_drew HB2.out).mono (by show w.heap.size ≤ w1.heap.size; omega))⟩
theorem meets_10 (cC cE cB cT cP cY cR : Nat) (cV : Bool) (a s x y : Nat) (w : World) (ha : a < 4294967296) (hs : s < 4294967296) (hx4 : x < 4294967296)
  (HR : Hid (∀ W,Calls Try.prog 23 #[.agg #[.int .u32 cC,.int .u8 cE,.int .u16 cB,.int .u16 cT,.int .u16 cP,.int .u16 cY,.int .u32 cR,.bool cV]] W fun e' w' => e' = .returned (.tuple #[.int .u32 x,.int .u64 y]) ∧ Below W.heap.size W w')) (c1 : (x : Int) < a) (c2 : ¬ (a : Int) + s < y) :
  Calls Try.prog 19 #[.agg #[.int .u32 cC,.int .u8 cE,.int .u16 cB,.int .u16 cT,.int .u16 cP,.int .u16 cY,.int .u32 cR,.bool cV],.agg #[.int .u32 a,.int .u32 s]] w fun e' w' => e' = .returned (.bool (decide (((a : Int) : Int) < (y : Int)))) ∧ Below w.heap.size w w':=by
 have wa:=w64 a ha
 have wx:=w64 x hx4
 go_enter Try.func19,Try.ntmps19
 go_wp2_with fail
 refine (HR.out _).mono ?_
 rintro e' w1 ⟨rfl,hb1⟩
 have hz1:=hb1.size
 simp at hz1
 have f0 : w1.cell? ⟨w.heap.size + 1,0,none⟩ = some (.int .u32 a):=(hb1.cell (p:=⟨w.heap.size + 1,0,none⟩) (by simp)).trans (by simp)
 have f1 : w1.cell? ⟨w.heap.size + 1,1,none⟩ = some (.int .u32 s):=(hb1.cell (p:=⟨w.heap.size + 1,1,none⟩) (by simp)).trans (by simp)
 have HB1:=hide hb1; clear hb1
 go_wp2_with fail
 go_region_held3 (fun w' => w'.cell? ⟨w.heap.size + 1,0,none⟩ = some (.int .u32 a) ∧ w'.cell? ⟨w.heap.size + 1,1,none⟩ = some (.int .u32 s)) (first | go_keep | exact ⟨(hb2.cell (p:=⟨w.heap.size + 1,0,none⟩) hz1).trans f0,(hb2.cell (p:=⟨w.heap.size + 1,1,none⟩) hz1).trans f1⟩)
  ((go_at_call 51; refine (end_any a s _ ha hs).mono ?_; rintro e' w2 ⟨rfl,hb2⟩))
 all_goals
  have HB2:=hide hb2; clear hb2
  go_wp2
  go_ret
  exact ⟨rfl,((((Below.refl _ _).alloc (Nat.le_refl _) _).alloc (by simp) _).trans (HB1.out.mono (by simp; omega))).trans ((below_of_drew HB2.out).mono (by show w.heap.size ≤ w1.heap.size; omega))⟩
theorem meets_01 (cC cE cB cT cP cY cR : Nat) (cV : Bool) (a s x y : Nat) (w : World) (ha : a < 4294967296) (hs : s < 4294967296) (hx4 : x < 4294967296)
  (HR : Hid (∀ W,Calls Try.prog 23 #[.agg #[.int .u32 cC,.int .u8 cE,.int .u16 cB,.int .u16 cT,.int .u16 cP,.int .u16 cY,.int .u32 cR,.bool cV]] W fun e' w' => e' = .returned (.tuple #[.int .u32 x,.int .u64 y]) ∧ Below W.heap.size W w')) (c1 : ¬ (x : Int) < a) (c2 : (a : Int) + s < y) :
  Calls Try.prog 19 #[.agg #[.int .u32 cC,.int .u8 cE,.int .u16 cB,.int .u16 cT,.int .u16 cP,.int .u16 cY,.int .u32 cR,.bool cV],.agg #[.int .u32 a,.int .u32 s]] w fun e' w' => e' = .returned (.bool (decide (((x : Int) : Int) < (a : Int) + s))) ∧ Below w.heap.size w w':=by
 have wa:=w64 a ha
 have wx:=w64 x hx4
 go_enter Try.func19,Try.ntmps19
 go_wp2_with fail
 refine (HR.out _).mono ?_
 rintro e' w1 ⟨rfl,hb1⟩
 have hz1:=hb1.size
 simp at hz1
 have f0 : w1.cell? ⟨w.heap.size + 1,0,none⟩ = some (.int .u32 a):=(hb1.cell (p:=⟨w.heap.size + 1,0,none⟩) (by simp)).trans (by simp)
 have f1 : w1.cell? ⟨w.heap.size + 1,1,none⟩ = some (.int .u32 s):=(hb1.cell (p:=⟨w.heap.size + 1,1,none⟩) (by simp)).trans (by simp)
 have HB1:=hide hb1; clear hb1
 go_wp2_with fail
 go_region_held3 (fun w' => w'.cell? ⟨w.heap.size + 1,0,none⟩ = some (.int .u32 a) ∧ w'.cell? ⟨w.heap.size + 1,1,none⟩ = some (.int .u32 s)) (first | go_keep | exact ⟨(hb2.cell (p:=⟨w.heap.size + 1,0,none⟩) hz1).trans f0,(hb2.cell (p:=⟨w.heap.size + 1,1,none⟩) hz1).trans f1⟩)
  ((go_at_call 51; refine (end_any a s _ ha hs).mono ?_; rintro e' w2 ⟨rfl,hb2⟩))
 all_goals
  have HB2:=hide hb2; clear hb2
  go_wp2
  go_ret
  exact ⟨rfl,((((Below.refl _ _).alloc (Nat.le_refl _) _).alloc (by simp) _).trans (HB1.out.mono (by simp; omega))).trans ((below_of_drew HB2.out).mono (by show w.heap.size ≤ w1.heap.size; omega))⟩
theorem meets_00 (cC cE cB cT cP cY cR : Nat) (cV : Bool) (a s x y : Nat) (w : World) (ha : a < 4294967296) (hs : s < 4294967296) (hx4 : x < 4294967296)
  (HR : Hid (∀ W,Calls Try.prog 23 #[.agg #[.int .u32 cC,.int .u8 cE,.int .u16 cB,.int .u16 cT,.int .u16 cP,.int .u16 cY,.int .u32 cR,.bool cV]] W fun e' w' => e' = .returned (.tuple #[.int .u32 x,.int .u64 y]) ∧ Below W.heap.size W w')) (c1 : ¬ (x : Int) < a) (c2 : ¬ (a : Int) + s < y) :
  Calls Try.prog 19 #[.agg #[.int .u32 cC,.int .u8 cE,.int .u16 cB,.int .u16 cT,.int .u16 cP,.int .u16 cY,.int .u32 cR,.bool cV],.agg #[.int .u32 a,.int .u32 s]] w fun e' w' => e' = .returned (.bool (decide (((x : Int) : Int) < (y : Int)))) ∧ Below w.heap.size w w':=by
 have wa:=w64 a ha
 have wx:=w64 x hx4
 go_enter Try.func19,Try.ntmps19
 go_wp2_with fail
 refine (HR.out _).mono ?_
 rintro e' w1 ⟨rfl,hb1⟩
 have hz1:=hb1.size
 simp at hz1
 have f0 : w1.cell? ⟨w.heap.size + 1,0,none⟩ = some (.int .u32 a):=(hb1.cell (p:=⟨w.heap.size + 1,0,none⟩) (by simp)).trans (by simp)
 have f1 : w1.cell? ⟨w.heap.size + 1,1,none⟩ = some (.int .u32 s):=(hb1.cell (p:=⟨w.heap.size + 1,1,none⟩) (by simp)).trans (by simp)
 have HB1:=hide hb1; clear hb1
 go_wp2_with fail
 go_region_held3 (fun w' => w'.cell? ⟨w.heap.size + 1,0,none⟩ = some (.int .u32 a) ∧ w'.cell? ⟨w.heap.size + 1,1,none⟩ = some (.int .u32 s)) (first | go_keep | exact ⟨(hb2.cell (p:=⟨w.heap.size + 1,0,none⟩) hz1).trans f0,(hb2.cell (p:=⟨w.heap.size + 1,1,none⟩) hz1).trans f1⟩)
  ((go_at_call 51; refine (end_any a s _ ha hs).mono ?_; rintro e' w2 ⟨rfl,hb2⟩))
 all_goals
  have HB2:=hide hb2; clear hb2
  go_wp2
  go_ret
  exact ⟨rfl,((((Below.refl _ _).alloc (Nat.le_refl _) _).alloc (by simp) _).trans (HB1.out.mono (by simp; omega))).trans ((below_of_drew HB2.out).mono (by show w.heap.size ≤ w1.heap.size; omega))⟩
theorem meets_eq {x y a s : Nat} {M N : Int} (hM : ((max x a : Nat) : Int) = M) (hN : ((min y (a + s) : Nat) : Int) = N) : decide (M < N) = meetsN x y a s:=by
 subst hM hN
 unfold meetsN; rw [decide_eq_decide]; omega
theorem meets_any (cC cE cB cT cP cY cR : Nat) (cV : Bool) (a s x y : Nat) (w : World) (cl : capB cC cE cB cT cP cY cR) (ha : a < 4294967296) (hs : s < 4294967296) (hx : (decN cE cB cT cC).1 = x) (hy : (decN cE cB cT cC).2 = y) :
  Calls Try.prog 19 #[.agg #[.int .u32 cC,.int .u8 cE,.int .u16 cB,.int .u16 cT,.int .u16 cP,.int .u16 cY,.int .u32 cR,.bool cV],.agg #[.int .u32 a,.int .u32 s]] w fun e' w' => e' = .returned (.bool (meetsN x y a s)) ∧ Below w.heap.size w w':=by
 have HR : Hid (∀ W,Calls Try.prog 23 #[.agg #[.int .u32 cC,.int .u8 cE,.int .u16 cB,.int .u16 cT,.int .u16 cP,.int .u16 cY,.int .u32 cR,.bool cV]] W fun e' w' => e' = .returned (.tuple #[.int .u32 x,.int .u64 y]) ∧ Below W.heap.size W w'):=fun W => range_is cC cE cB cT cP cY cR cV x y W cl hx hy
 have hx4 : x < 4294967296:=by rw [← hx]; exact (dec_lt _ _ _ _).1
 by_cases c1 : (x : Int) < a
 ·by_cases c2 : (a : Int) + s < y
  ·have:=meets_11 cC cE cB cT cP cY cR cV a s x y w ha hs hx4 HR c1 c2
   rwa [meets_eq (x:=x) (y:=y) (a:=a) (s:=s) (by omega) (by omega)] at this
  ·have:=meets_10 cC cE cB cT cP cY cR cV a s x y w ha hs hx4 HR c1 c2
   rwa [meets_eq (x:=x) (y:=y) (a:=a) (s:=s) (by omega) (by omega)] at this
 ·by_cases c2 : (a : Int) + s < y
  ·have:=meets_01 cC cE cB cT cP cY cR cV a s x y w ha hs hx4 HR c1 c2
   rwa [meets_eq (x:=x) (y:=y) (a:=a) (s:=s) (by omega) (by omega)] at this
  ·have:=meets_00 cC cE cB cT cP cY cR cV a s x y w ha hs hx4 HR c1 c2
   rwa [meets_eq (x:=x) (y:=y) (a:=a) (s:=s) (by omega) (by omega)] at this
end Go.Proofs.Ytliidiceljdgmaa
namespace Go.Proofs.Ytliidiceljdgmaa
open Go.RowKit
attribute [local go_sem ↓] Go.wp_at_zero Go.wp_at_succ
def withinN (p q b t l h : Nat) : Bool:=subP p q && inN b t l h
theorem within_eq (p q b t l h : Nat) : withinN p q b t l h = (subP p q && (decide (t ≤ b) || (decide (l ≤ b) && decide (t ≤ h)))):=rfl
theorem within_any (aC aE aB aT aP aY aR : Nat) (aV : Bool) (bC bE bB bT bP bY bR : Nat) (bV : Bool) (x y u v : Nat) (w : World) (al : capB aC aE aB aT aP aY aR) (bl : capB bC bE bB bT bP bY bR) (hx : (decN aE aB aT aC).1 = x) (hy : (decN aE aB aT aC).2 = y) (hu : (decN bE bB bT bC).1 = u) (hv : (decN bE bB bT bC).2 = v) :
  Calls Try.prog 52 #[.agg #[.int .u32 aC,.int .u8 aE,.int .u16 aB,.int .u16 aT,.int .u16 aP,.int .u16 aY,.int .u32 aR,.bool aV],.agg #[.int .u32 bC,.int .u8 bE,.int .u16 bB,.int .u16 bT,.int .u16 bP,.int .u16 bY,.int .u32 bR,.bool bV]] w fun e' w' => e' = .returned (.bool (withinN aP bP x y u v)) ∧ Below w.heap.size w w':=by
 have HA : Hid (∀ W,Calls Try.prog 23 #[.agg #[.int .u32 aC,.int .u8 aE,.int .u16 aB,.int .u16 aT,.int .u16 aP,.int .u16 aY,.int .u32 aR,.bool aV]] W fun e' w' => e' = .returned (.tuple #[.int .u32 x,.int .u64 y]) ∧ Below W.heap.size W w'):=fun W => range_is aC aE aB aT aP aY aR aV x y W al hx hy
 have HB : Hid (∀ W,Calls Try.prog 23 #[.agg #[.int .u32 bC,.int .u8 bE,.int .u16 bB,.int .u16 bT,.int .u16 bP,.int .u16 bY,.int .u32 bR,.bool bV]] W fun e' w' => e' = .returned (.tuple #[.int .u32 u,.int .u64 v]) ∧ Below W.heap.size W w'):=fun W => range_is bC bE bB bT bP bY bR bV u v W bl hu hv
 have hs:=sub_not al.2.2.2.2.1 bl.2.2.2.2.1
 have hxl : x < 4294967296:=by rw [← hx]; exact (dec_lt _ _ _ _).1
 have hul : u < 4294967296:=by rw [← hu]; exact (dec_lt _ _ _ _).1
 rw [within_eq]
 clear hx hy hu hv
 obtain ⟨k,hk⟩ : ∃ k,subP aP bP = k:=⟨_,rfl⟩
 rw [hk] at hs ⊢
 clear hk
 cases k with
 | false =>
  rw [Bool.false_and]
  go_enter Try.func52,Try.ntmps52
  go_wp2_with fail
  refine (HA.out _).mono ?_
  rintro e' w1 ⟨rfl,hb1⟩
  obtain ⟨hc1,hf1⟩:=bcell hb1
  have hz1:=hb1.size
  simp at hz1
  have HB1:=hide hb1
  go_wp2_with fail
  refine (HB.out _).mono ?_
  rintro e' w2 ⟨rfl,hb2⟩
  have f0 : w2.cell? ⟨w.heap.size,4,none⟩ = some (.int .u16 aP):=(((Blk.new1 w _ _ _).below hb1 (by simp; omega)).below hb2 (by omega)).cell 4
  have f1 : w2.cell? ⟨w.heap.size + 1,4,none⟩ = some (.int .u16 bP):=(((Blk.new2 w _ _ _).below hb1 (by simp)).below hb2 (by omega)).cell 4
  have HB2:=hide hb2; clear hb2 hc1 hf1 hb1
  go_wp2
  go_ret
  exact ⟨rfl,((((Below.refl _ _).alloc (Nat.le_refl _) _).alloc (by simp) _).trans (HB1.out.mono (by simp; omega))).trans (HB2.out.mono (by omega))⟩
 | true =>
  rw [Bool.true_and]
  by_cases c1 : y ≤ x
  ·rw [decide_eq_true c1,Bool.true_or]
   go_enter Try.func52,Try.ntmps52
   go_wp2_with fail
   refine (HA.out _).mono ?_
   rintro e' w1 ⟨rfl,hb1⟩
   obtain ⟨hc1,hf1⟩:=bcell hb1
   have hz1:=hb1.size
   simp at hz1
   have HB1:=hide hb1
   go_wp2_with fail
   refine (HB.out _).mono ?_
   rintro e' w2 ⟨rfl,hb2⟩
   have f0 : w2.cell? ⟨w.heap.size,4,none⟩ = some (.int .u16 aP):=(((Blk.new1 w _ _ _).below hb1 (by simp; omega)).below hb2 (by omega)).cell 4
   have f1 : w2.cell? ⟨w.heap.size + 1,4,none⟩ = some (.int .u16 bP):=(((Blk.new2 w _ _ _).below hb1 (by simp)).below hb2 (by omega)).cell 4
   have HB2:=hide hb2; clear hb2 hc1 hf1 hb1
   go_wp2
   go_ret
   exact ⟨rfl,((((Below.refl _ _).alloc (Nat.le_refl _) _).alloc (by simp) _).trans (HB1.out.mono (by simp; omega))).trans (HB2.out.mono (by omega))⟩
  ·have d1 : decide (y ≤ x) = false:=by simpa using c1
   rw [d1,Bool.false_or]
   by_cases c2 : u ≤ x
   ·rw [decide_eq_true c2,Bool.true_and]
    go_enter Try.func52,Try.ntmps52
    go_wp2_with fail
    refine (HA.out _).mono ?_
    rintro e' w1 ⟨rfl,hb1⟩
    obtain ⟨hc1,hf1⟩:=bcell hb1
    have hz1:=hb1.size
    simp at hz1
    have HB1:=hide hb1
    go_wp2_with fail
    refine (HB.out _).mono ?_
    rintro e' w2 ⟨rfl,hb2⟩
    have f0 : w2.cell? ⟨w.heap.size,4,none⟩ = some (.int .u16 aP):=(((Blk.new1 w _ _ _).below hb1 (by simp; omega)).below hb2 (by omega)).cell 4
    have f1 : w2.cell? ⟨w.heap.size + 1,4,none⟩ = some (.int .u16 bP):=(((Blk.new2 w _ _ _).below hb1 (by simp)).below hb2 (by omega)).cell 4
    have HB2:=hide hb2; clear hb2 hc1 hf1 hb1
    go_wp2
    go_ret
    exact ⟨rfl,((((Below.refl _ _).alloc (Nat.le_refl _) _).alloc (by simp) _).trans (HB1.out.mono (by simp; omega))).trans (HB2.out.mono (by omega))⟩
   ·have d2 : decide (u ≤ x) = false:=by simpa using c2
    rw [d2,Bool.false_and]
    go_enter Try.func52,Try.ntmps52
    go_wp2_with fail
    refine (HA.out _).mono ?_
    rintro e' w1 ⟨rfl,hb1⟩
    obtain ⟨hc1,hf1⟩:=bcell hb1
    have hz1:=hb1.size
    simp at hz1
    have HB1:=hide hb1
    go_wp2_with fail
    refine (HB.out _).mono ?_
    rintro e' w2 ⟨rfl,hb2⟩
    have f0 : w2.cell? ⟨w.heap.size,4,none⟩ = some (.int .u16 aP):=(((Blk.new1 w _ _ _).below hb1 (by simp; omega)).below hb2 (by omega)).cell 4
    have f1 : w2.cell? ⟨w.heap.size + 1,4,none⟩ = some (.int .u16 bP):=(((Blk.new2 w _ _ _).below hb1 (by simp)).below hb2 (by omega)).cell 4
    have HB2:=hide hb2; clear hb2 hc1 hf1 hb1
    go_wp2
    go_ret
    exact ⟨rfl,((((Below.refl _ _).alloc (Nat.le_refl _) _).alloc (by simp) _).trans (HB1.out.mono (by simp; omega))).trans (HB2.out.mono (by omega))⟩
def makeOk (a s p : Nat) : Bool:=decide (p ≤ 255) && (decide (a + s ≤ 4294967296) && encX a (a + s))
theorem enc_at_end (a s : Nat) (w : World) (ha : a < 4294967296) (_hs : s < 4294967296) (h : a + s ≤ 4294967296) :
  Calls Try.prog 74 #[.int .u32 a,.int .u64 ((a : Int) + s)] w fun e' w' => e' = .returned (.tuple #[.int .u8 (encE a (a + s)),.int .u16 (encB a (a + s)),.int .u16 (encT a (a + s)),.bool (encX a (a + s)),.bool true]) ∧ ∃ m,w' = w.drewN m:=by
 have:=encode_any a (a + s) w ha (by omega)
 rw [show rightN a (a + s) = true by simp [rightN,h],show ((a + s : Nat) : Int) = (a : Int) + s by omega] at this
 exact this
end Go.Proofs.Ytliidiceljdgmaa
namespace Go.Proofs.Ytliidiceljdgmaa
open Go.RowKit
attribute [local go_sem ↓] Go.wp_at_zero Go.wp_at_succ
theorem make_far (a s p : Nat) (w : World) (ha : a < 4294967296) (hs : s < 4294967296) (h1 : ¬ (255 : Int) < p) (h2 : (4294967296 : Int) < (a : Int) + s) :
  Calls Try.prog 77 #[.agg #[.int .u32 a,.int .u32 s],.int .u16 p] w fun e' w' => e' = .returned (.tuple #[.agg #[.int .u32 0,.int .u8 0,.int .u16 0,.int .u16 0,.int .u16 0,.int .u16 0,.int .u32 0,.bool false],.bool false]) ∧ Below w.heap.size w w':=by
 go_enter Try.func77,Try.ntmps77
 go_wp2_with fail
 refine (end_any a s _ ha hs).mono ?_
 rintro e' w1 ⟨rfl,hb1⟩
 have hz1:=hb1.size
 simp at hz1
 obtain ⟨hc1,hf1⟩:=bcell hb1
 have HB1:=hide hb1; clear hb1
 go_wp2
 refine bodyPost_ret (v:=.tuple #[.agg #[.int .u32 0,.int .u8 0,.int .u16 0,.int .u16 0,.int .u16 0,.int .u16 0,.int .u32 0,.bool false],.bool false]) (by simp [results,Try.results77,go_sem,hc1]) rfl ⟨rfl,?_⟩
 have hS : w.heap.size ≤ w1.heap.size:=by omega
 repeat (refine Below.setCell ?_ (by simp <;> omega) _)
 exact (((Below.refl _ _).alloc (Nat.le_refl _) _).alloc (by simp) _).trans (HB1.out.mono (by simp; omega))
theorem make_wide (a s p : Nat) (w : World) (h1 : (255 : Int) < p) :
  Calls Try.prog 77 #[.agg #[.int .u32 a,.int .u32 s],.int .u16 p] w fun e' w' => e' = .returned (.tuple #[.agg #[.int .u32 0,.int .u8 0,.int .u16 0,.int .u16 0,.int .u16 0,.int .u16 0,.int .u32 0,.bool false],.bool false]) ∧ Below w.heap.size w w':=by
 go_enter Try.func77,Try.ntmps77
 go_wp2
 refine bodyPost_ret (v:=.tuple #[.agg #[.int .u32 0,.int .u8 0,.int .u16 0,.int .u16 0,.int .u16 0,.int .u16 0,.int .u32 0,.bool false],.bool false]) (by simp [results,Try.results77,go_sem]) rfl ⟨rfl,by (repeat (first | exact Below.refl _ _ | refine Below.drew ?_ | refine below_drewN ?_ _ | refine Below.alloc ?_ (by simp <;> omega) _ | refine Below.setCell ?_ (by simp <;> omega) _))⟩
set_option maxHeartbeats 1000000 in
theorem make_yes (a s p e b t : Nat) (w : World) (ha : a < 4294967296) (hs : s < 4294967296) (h1 : ¬ (255 : Int) < p) (h2 : decide ((4294967296 : Int) < (a : Int) + s) = false)
  (HE : Hid (∀ W,Calls Try.prog 74 #[.int .u32 a,.int .u64 ((a : Int) + s)] W fun e' w' => e' = .returned (.tuple #[.int .u8 e,.int .u16 b,.int .u16 t,.bool true,.bool true]) ∧ ∃ m,w' = W.drewN m)) :
  Calls Try.prog 77 #[.agg #[.int .u32 a,.int .u32 s],.int .u16 p] w fun e' w' => e' = .returned (.tuple #[.agg #[.int .u32 a,.int .u8 e,.int .u16 b,.int .u16 t,.int .u16 p,.int .u16 0,.int .u32 0,.bool true],.bool true]) ∧ Below w.heap.size w w':=by
 go_enter Try.func77,Try.ntmps77
 go_wp2_with fail
 refine (end_any a s _ ha hs).mono ?_
 rintro e' w1 ⟨rfl,hb1⟩
 have hz1:=hb1.size
 simp at hz1
 have hk1:=(Blk.new1 w _ _ _).below hb1 (by simp; omega)
 have hk2:=(Blk.new2 w _ _ _).below hb1 (by simp)
 have f0 : w1.cell? ⟨w.heap.size,0,none⟩ = some (.int .u32 a):=hk1.cell 0
 have f1 : w1.cell? ⟨w.heap.size,1,none⟩ = some (.int .u32 s):=hk1.cell 1
 have HK1:=hide hk1
 have HK2:=hide hk2
 have HB1:=hide hb1; clear hb1 hk1 hk2
 go_wp2_with fail
 have KK : Hid (∀ W,Below w1.heap.size w1 W → W.cell? ⟨w.heap.size,0,none⟩ = some (.int .u32 a) ∧ W.cell? ⟨w.heap.size,1,none⟩ = some (.int .u32 s)):=fun W hW => ⟨(hW.cell (p:=⟨w.heap.size,0,none⟩) (by show w.heap.size < _; omega)).trans f0,(hW.cell (p:=⟨w.heap.size,1,none⟩) (by show w.heap.size < _; omega)).trans f1⟩
 go_region_held3 (fun w' => w'.cell? ⟨w.heap.size,0,none⟩ = some (.int .u32 a) ∧ w'.cell? ⟨w.heap.size,1,none⟩ = some (.int .u32 s)) ((refine KK.out _ ?_; repeat (first | exact Below.refl _ _ | exact below_of_drew hb2 | refine Below.drew ?_ | refine below_drewN ?_ _)))
  (first
   | (go_at_call 51; refine (end_any a s _ ha hs).mono ?_; rintro e' w2 ⟨rfl,hb2⟩)
   | (go_at_call 74; refine (HE.out _).mono ?_; rintro e' w3 ⟨rfl,m,rfl⟩))
 all_goals
  have hb3 : Below w1.heap.size w1 w2:=below_of_drew hb2
  have hz2:=hb3.size
  have hk1:=HK1.out.below hb3 (by omega)
  have hk2:=HK2.out.below hb3 (by omega)
  have g0 : w2.cell? ⟨w.heap.size,0,none⟩ = some (.int .u32 a):=hk1.cell 0
  have c0:=hk2.cell 0
  have d0:=hk2.frozen 0
  have c1:=hk2.cell 1
  have d1:=hk2.frozen 1
  have c2:=hk2.cell 2
  have d2:=hk2.frozen 2
  have c3:=hk2.cell 3
  have d3:=hk2.frozen 3
  have c4:=hk2.cell 4
  have d4:=hk2.frozen 4
  have c5:=hk2.cell 5
  have d5:=hk2.frozen 5
  have c6:=hk2.cell 6
  have d6:=hk2.frozen 6
  have c7:=hk2.cell 7
  have d7:=hk2.frozen 7
  simp at c0 c1 c2 c3 c4 c5 c6 c7
  have HB2:=hide hb3; clear hb2 hb3 hk1 hk2
  go_wp2
  refine bodyPost_ret (v:=.tuple #[.agg #[.int .u32 a,.int .u8 e,.int .u16 b,.int .u16 t,.int .u16 p,.int .u16 0,.int .u32 0,.bool true],.bool true]) (by simp [results,Try.results77,go_sem,c0,c1,c2,c3,c4,c5,c6,c7]) rfl ⟨rfl,?_⟩
  repeat (first | refine Below.setCell ?_ (by simp <;> omega) _ | refine below_drewN ?_ _)
  exact ((((Below.refl _ _).alloc (Nat.le_refl _) _).alloc (by simp) _).trans (HB1.out.mono (by simp; omega))).trans (HB2.out.mono (by omega))
set_option maxHeartbeats 1000000 in
theorem make_no (a s p e b t : Nat) (w : World) (ha : a < 4294967296) (hs : s < 4294967296) (h1 : ¬ (255 : Int) < p) (h2 : decide ((4294967296 : Int) < (a : Int) + s) = false)
  (HE : Hid (∀ W,Calls Try.prog 74 #[.int .u32 a,.int .u64 ((a : Int) + s)] W fun e' w' => e' = .returned (.tuple #[.int .u8 e,.int .u16 b,.int .u16 t,.bool false,.bool true]) ∧ ∃ m,w' = W.drewN m)) :
  Calls Try.prog 77 #[.agg #[.int .u32 a,.int .u32 s],.int .u16 p] w fun e' w' => e' = .returned (.tuple #[.agg #[.int .u32 0,.int .u8 0,.int .u16 0,.int .u16 0,.int .u16 0,.int .u16 0,.int .u32 0,.bool false],.bool false]) ∧ Below w.heap.size w w':=by
 go_enter Try.func77,Try.ntmps77
 go_wp2_with fail
 refine (end_any a s _ ha hs).mono ?_
 rintro e' w1 ⟨rfl,hb1⟩
 have hz1:=hb1.size
 simp at hz1
 have hk1:=(Blk.new1 w _ _ _).below hb1 (by simp; omega)
 have hk2:=(Blk.new2 w _ _ _).below hb1 (by simp)
 have f0 : w1.cell? ⟨w.heap.size,0,none⟩ = some (.int .u32 a):=hk1.cell 0
 have f1 : w1.cell? ⟨w.heap.size,1,none⟩ = some (.int .u32 s):=hk1.cell 1
 have HK1:=hide hk1
 have HK2:=hide hk2
 have HB1:=hide hb1; clear hb1 hk1 hk2
 go_wp2_with fail
 have KK : Hid (∀ W,Below w1.heap.size w1 W → W.cell? ⟨w.heap.size,0,none⟩ = some (.int .u32 a) ∧ W.cell? ⟨w.heap.size,1,none⟩ = some (.int .u32 s)):=fun W hW => ⟨(hW.cell (p:=⟨w.heap.size,0,none⟩) (by show w.heap.size < _; omega)).trans f0,(hW.cell (p:=⟨w.heap.size,1,none⟩) (by show w.heap.size < _; omega)).trans f1⟩
 go_region_held3 (fun w' => w'.cell? ⟨w.heap.size,0,none⟩ = some (.int .u32 a) ∧ w'.cell? ⟨w.heap.size,1,none⟩ = some (.int .u32 s)) ((refine KK.out _ ?_; repeat (first | exact Below.refl _ _ | exact below_of_drew hb2 | refine Below.drew ?_ | refine below_drewN ?_ _)))
  (first
   | (go_at_call 51; refine (end_any a s _ ha hs).mono ?_; rintro e' w2 ⟨rfl,hb2⟩)
   | (go_at_call 74; refine (HE.out _).mono ?_; rintro e' w3 ⟨rfl,m,rfl⟩))
 all_goals
  have hb3 : Below w1.heap.size w1 w2:=below_of_drew hb2
  have hz2:=hb3.size
  have hk1:=HK1.out.below hb3 (by omega)
  have hk2:=HK2.out.below hb3 (by omega)
  have g0 : w2.cell? ⟨w.heap.size,0,none⟩ = some (.int .u32 a):=hk1.cell 0
  have c0:=hk2.cell 0
  have d0:=hk2.frozen 0
  have c1:=hk2.cell 1
  have d1:=hk2.frozen 1
  have c2:=hk2.cell 2
  have d2:=hk2.frozen 2
  have c3:=hk2.cell 3
  have d3:=hk2.frozen 3
  have c4:=hk2.cell 4
  have d4:=hk2.frozen 4
  have c5:=hk2.cell 5
  have d5:=hk2.frozen 5
  have c6:=hk2.cell 6
  have d6:=hk2.frozen 6
  have c7:=hk2.cell 7
  have d7:=hk2.frozen 7
  simp at c0 c1 c2 c3 c4 c5 c6 c7
  have HB2:=hide hb3; clear hb2 hb3 hk1 hk2
  go_wp2
  refine bodyPost_ret (v:=.tuple #[.agg #[.int .u32 0,.int .u8 0,.int .u16 0,.int .u16 0,.int .u16 0,.int .u16 0,.int .u32 0,.bool false],.bool false]) (by simp [results,Try.results77,go_sem,c0,c1,c2,c3,c4,c5,c6,c7]) rfl ⟨rfl,?_⟩
  repeat (first | refine Below.setCell ?_ (by simp <;> omega) _ | refine below_drewN ?_ _)
  exact ((((Below.refl _ _).alloc (Nat.le_refl _) _).alloc (by simp) _).trans (HB1.out.mono (by simp; omega))).trans (HB2.out.mono (by omega))
theorem makeOk_true {a s p : Nat} (h : makeOk a s p = true) : p ≤ 255 ∧ a + s ≤ 4294967296 ∧ encX a (a + s) = true:=by
 simp only [rr, tt, makeOk,Bool.and_eq_true,decide_eq_true_eq] at h; exact h
theorem make_y (a s p : Nat) (w : World) (ha : a < 4294967296) (hs : s < 4294967296) (h : makeOk a s p = true) :
  Calls Try.prog 77 #[.agg #[.int .u32 a,.int .u32 s],.int .u16 p] w fun e' w' => e' = .returned (.tuple #[.agg #[.int .u32 a,.int .u8 (encE a (a + s)),.int .u16 (encB a (a + s)),.int .u16 (encT a (a + s)),.int .u16 p,.int .u16 0,.int .u32 0,.bool true],.bool true]) ∧ Below w.heap.size w w':=by
 obtain ⟨h1,h2,h3⟩:=makeOk_true h
 refine make_yes a s p _ _ _ w ha hs (by omega) (by simp; omega) (fun W => ?_)
 have:=enc_at_end a s W ha hs h2
 rwa [h3] at this
theorem make_n (a s p : Nat) (w : World) (ha : a < 4294967296) (hs : s < 4294967296) (h : makeOk a s p = false) :
  Calls Try.prog 77 #[.agg #[.int .u32 a,.int .u32 s],.int .u16 p] w fun e' w' => e' = .returned (.tuple #[.agg #[.int .u32 0,.int .u8 0,.int .u16 0,.int .u16 0,.int .u16 0,.int .u16 0,.int .u32 0,.bool false],.bool false]) ∧ Below w.heap.size w w':=by
 by_cases h1 : (255 : Int) < p
 ·exact make_wide a s p w h1
 ·by_cases h2 : (4294967296 : Int) < (a : Int) + s
  ·exact make_far a s p w ha hs h1 h2
  ·have h3 : encX a (a + s) = false:=by
    simp only [rr, tt, makeOk,Bool.and_eq_false_iff,decide_eq_false_iff_not] at h
    rcases h with h | h | h
    ·omega
    ·omega
    ·exact h
   refine make_no a s p (encE a (a + s)) (encB a (a + s)) (encT a (a + s)) w ha hs h1 (by simp; omega) (fun W => ?_)
   have:=enc_at_end a s W ha hs (by omega)
   rwa [h3] at this
end Go.Proofs.Ytliidiceljdgmaa
namespace Go.Proofs.Ytliidiceljdgmaa
open Go.RowKit
theorem rrounded_any (b t e : Nat) (w : World) (hb : b < 4294967296) (ht : t ≤ 4294967296) (he : e ≤ 21) :
  Calls Try.prog 105 #[.int .u32 b,.int .u64 t,.int .u8 e] w fun e' w' => e' = .returned (.tuple #[.int .u64 (dnN b e),.int .u64 (upN t e)]) ∧ ∃ m,w' = w.drewN m:=by
 have hp:=pow_le_21 he
 have h0:=pow_pos2 e
 have hd1:=dn_le b e
 have hd3:=up_lt t e
 have hpw : IntKind.u64.wrap ((2 : Int) ^ e) = ((2 ^ e : Nat) : Int):=by
  rw [IntKind.wrap_u64,show ((2 : Int) ^ e) = ((2 ^ e : Nat) : Int) by simp]
  generalize 2 ^ e = z at hp
  omega
 unfold dnN at hd1 ⊢
 unfold upN at hd3 ⊢
 obtain ⟨U,hU⟩ : ∃ U,2 ^ e = U:=⟨_,rfl⟩
 rw [hU] at hp h0 hpw hd1 hd3 ⊢
 obtain ⟨x,hx⟩ : ∃ x,b / U = x:=⟨_,rfl⟩
 obtain ⟨y,hy⟩ : ∃ y,(t + (U - 1)) / U = y:=⟨_,rfl⟩
 rw [hx] at hd1 ⊢
 rw [hy] at hd3 ⊢
 obtain ⟨d,hd⟩ : ∃ d,x * U = d:=⟨_,rfl⟩
 obtain ⟨u,hu⟩ : ∃ u,y * U = u:=⟨_,rfl⟩
 rw [hd] at hd1 ⊢
 rw [hu] at hd3 ⊢
 have r1 : (b : Int) / (U : Int) = (x : Int):=by rw [← hx]; simp
 have r2 : (t : Int) + U - 1 = ((t + (U - 1) : Nat) : Int):=by omega
 have r3 : IntKind.u64.wrap ((t : Int) + U) = (t : Int) + U:=by rw [IntKind.wrap_u64]; omega
 have r4 : IntKind.u64.wrap ((t : Int) + U - 1) = ((t + (U - 1) : Nat) : Int):=by rw [IntKind.wrap_u64]; omega
 obtain ⟨s,hs⟩ : ∃ s,t + (U - 1) = s:=⟨_,rfl⟩
 rw [hs] at r2 r4 hy
 have r5 : (s : Int) / (U : Int) = (y : Int):=by rw [← hy]; simp
 have r6 : (x : Int) * (U : Int) = (d : Int):=by rw [← hd]; simp
 have r7 : (y : Int) * (U : Int) = (u : Int):=by rw [← hu]; simp
 have r8 : IntKind.u64.wrap (d : Int) = (d : Int):=by rw [IntKind.wrap_u64]; omega
 have r9 : IntKind.u64.wrap (u : Int) = (u : Int):=by rw [IntKind.wrap_u64]; omega
 have hne : ((U : Int) == 0) = false:=by simp; omega
 have hxl : x ≤ 4294967295:=by rw [← hx]; exact Nat.le_trans (Nat.div_le_self _ _) (by omega)
 have hyl : y ≤ 4297064448:=by rw [← hy]; exact Nat.le_trans (Nat.div_le_self _ _) (by omega)
 clear hx hy hd hu hU hs
 go_enter Try.func105,Try.ntmps105
 go_wp2
 go_quiet (fail)
 go_wp2
 go_ret2
 exact ⟨rfl,_,rfl⟩
theorem expo_here {b t k : Nat} (hk : k ≤ 21) (hE : expoN b t = expoFrom b t (21 - k) k) (hf : fitsN b t k = true) : expoN b t = k:=by
 rw [hE]
 rcases Nat.lt_or_ge k 21 with h | h
 ·rw [show 21 - k = (20 - k) + 1 by omega,expoFrom,if_pos hf]
 ·rw [show 21 - k = 0 by omega]; rfl
theorem rexponent_any (b t : Nat) (w : World) (hb : b < 4294967296) (hbt : b ≤ t) (ht : t ≤ 4294967296) :
  Calls Try.prog 104 #[.int .u32 b,.int .u64 t] w fun e' w' => e' = .returned (.int .u8 (expoN b t)) ∧ ∃ m,w' = w.drewN m:=by
 go_enter Try.func104,Try.ntmps104
 go_wp2
 go_loopw [5] (fun i wr => ∃ k m : Nat,k ≤ 21 ∧ i = .int .u8 k ∧ Hid (expoN b t = expoFrom b t (21 - k) k) ∧ wr = w.drewN m) (fun i _ => (21 - intOf i).toNat)
 case atStart => exact ⟨0,0,by omega,rfl,rfl,rfl⟩
 case round =>
  obtain ⟨k,m,hk,rfl,HE,rfl⟩:=hrel
  have hd1:=dn_le b k
  have hd2:=up_ge t k
  have hd3:=up_lt t k
  have hp:=pow_le_21 hk
  have hle : dnN b k ≤ upN t k:=by omega
  have hul : upN t k ≤ 4294967296 + 2097152:=by omega
  have hpw : IntKind.u64.wrap ((2048 : Int) * 2 ^ k) = ((2048 * 2 ^ k : Nat) : Int):=by
   rw [IntKind.wrap_u64,show ((2 : Int) ^ k) = ((2 ^ k : Nat) : Int) by simp]
   generalize 2 ^ k = z at hp
   omega
  obtain ⟨p,hpp⟩ : ∃ p,2048 * 2 ^ k = p:=⟨_,rfl⟩
  obtain ⟨d,hd⟩ : ∃ d,dnN b k = d:=⟨_,rfl⟩
  obtain ⟨u,hu⟩ : ∃ u,upN t k = u:=⟨_,rfl⟩
  have hra:=fun W => rrounded_any b t k W hb ht hk
  have HF : Hid (fitsN b t k = decide (u - d ≤ p)):=by show _ = _; unfold fitsN; rw [hpp,hd,hu]
  rw [hd,hu] at hra hle
  rw [hu] at hul
  rw [hpp] at hpw
  have HRA:=hide hra
  clear hra hpp hd hu hd1 hd2 hd3 hp
  by_cases hf : (u : Int) - d ≤ p
  ·go_wp2_with (go_at_call 105; refine (HRA.out _).mono ?_; rintro e' w' ⟨rfl,m2,rfl⟩)
   go_ret
   have hft : fitsN b t k = true:=by rw [HF.out]; simp; omega
   exact ⟨ret_int (by rw [expo_here hk HE.out hft]),_,rfl⟩
  ·have hft : fitsN b t k = false:=by rw [HF.out]; simp; omega
   have h21 : k < 21:=by
    rcases Nat.lt_or_ge k 21 with h | h
    ·exact h
    ·obtain rfl : k = 21:=by omega
     rw [fits_21 ht] at hft; cases hft
   have HT : Hid (expoN b t = expoFrom b t (21 - (k + 1)) (k + 1)):=by
    show _ = _
    rw [HE.out,show 21 - k = (21 - (k + 1)) + 1 by omega,expoFrom,hft]; rfl
   clear hft
   go_wp2_with (go_at_call 105; refine (HRA.out _).mono ?_; rintro e' w' ⟨rfl,m2,rfl⟩)
   go_roundw
   case rel => exact ⟨k + 1,_,by omega,by go_num,HT,rfl⟩
   case measure => simp [intOf]; omega
theorem rencode_any (b t : Nat) (w : World) (hb : b < 4294967296) (ht : t < 18446744073709551616) :
  Calls Try.prog 98 #[.int .u32 b,.int .u64 t] w fun e' w' => e' = .returned (.tuple #[.int .u8 (encE b t),.int .u16 (encB b t),.int .u16 (encT b t),.bool (encX b t),.bool (rightN b t)]) ∧ ∃ m,w' = w.drewN m:=by
 by_cases hr : rightN b t = true
 ·obtain ⟨h1,h2⟩:=rightN_true hr
  unfold encE encB encT encX
  rw [hr,if_pos rfl,if_pos rfl,if_pos rfl]
  have hex:=fun W => rexponent_any b t W hb h1 h2
  have hk:=expo_le b t
  have hra:=fun W => rrounded_any b t (expoN b t) W hb h2 hk
  obtain ⟨k,hkk⟩ : ∃ k,expoN b t = k:=⟨_,rfl⟩
  rw [hkk] at hk hex hra ⊢
  have hd1:=dn_le b k
  have hd3:=up_lt t k
  have hp:=pow_le_21 hk
  have h0:=pow_pos2 k
  have hpw : IntKind.u64.wrap ((2 : Int) ^ k) = ((2 ^ k : Nat) : Int):=by
   rw [IntKind.wrap_u64,show ((2 : Int) ^ k) = ((2 ^ k : Nat) : Int) by simp]
   generalize 2 ^ k = z at hp
   omega
  obtain ⟨x,hx⟩ : ∃ x,b / 2 ^ k = x:=⟨_,rfl⟩
  have hdx:=dn_div b k
  rw [hx] at hdx ⊢
  obtain ⟨d,hd⟩ : ∃ d,dnN b k = d:=⟨_,rfl⟩
  obtain ⟨u,hu⟩ : ∃ u,upN t k = u:=⟨_,rfl⟩
  rw [hd] at hdx hd1 hra ⊢
  rw [hu] at hd3 hra ⊢
  obtain ⟨y,hy⟩ : ∃ y,u / 2 ^ k = y:=⟨_,rfl⟩
  rw [hy]
  obtain ⟨U,hU⟩ : ∃ U,2 ^ k = U:=⟨_,rfl⟩
  rw [hU] at hp h0 hpw hdx hy hx hd3
  have hxl : x < 4294967296:=by rw [← hx]; exact Nat.lt_of_le_of_lt (Nat.div_le_self _ _) hb
  have hyl : y ≤ 4297064448:=by rw [← hy]; exact Nat.le_trans (Nat.div_le_self _ _) (by omega)
  have i1 : (d : Int) / (U : Int) = (x : Int):=by rw [← hdx]; simp
  have i2 : (u : Int) / (U : Int) = (y : Int):=by rw [← hy]; simp
  have hne : ((U : Int) == 0) = false:=by simp; omega
  obtain ⟨xm,hxm⟩ : ∃ m,x % 4096 = m:=⟨_,rfl⟩
  obtain ⟨ym,hym⟩ : ∃ m,y % 4096 = m:=⟨_,rfl⟩
  have hxml : xm < 4096:=by omega
  have hyml : ym < 4096:=by omega
  have i3 : (x : Int) % 4096 = (xm : Int):=by rw [← hxm]; simp
  have i4 : (y : Int) % 4096 = (ym : Int):=by rw [← hym]; simp
  rw [hxm,hym]
  have HX:=hide hex
  have HRA:=hide hra
  clear hkk hx hdx hd hu hy hxm hym hd1 hd3 hex hra hr hU
  have g1 : decide ((t : Int) < b) = false:=by simp; omega
  have g2 : decide ((4294967296 : Int) < t) = false:=by simp; omega
  by_cases c1 : d = b
  ·have d1 : ((d : Int) == b) = true:=by rw [c1]; simp
   have C1:=hide c1
   clear c1
   go_enter Try.func98,Try.ntmps98
   go_wp2_with (first
    | (go_at_call 104; refine (HX.out _).mono ?_; rintro e' w' ⟨rfl,m1,rfl⟩)
    | (go_at_call 105; refine (HRA.out _).mono ?_; rintro e' w' ⟨rfl,m2,rfl⟩))
   go_quiet (fail)
   go_wp2
   refine bodyPost_ret (results_tmp5 rfl _ _ _) rfl ⟨?_,_,World.drewN_drewN _ _ _⟩
   have c:=C1.out
   simp only [rr, tt, c,decide_true,Bool.true_and]
   exact ret5_bool (beq_cast u t)
  ·have d1 : ((d : Int) == b) = false:=by simp; omega
   have C1:=hide c1
   clear c1
   go_enter Try.func98,Try.ntmps98
   go_wp2_with (first
    | (go_at_call 104; refine (HX.out _).mono ?_; rintro e' w' ⟨rfl,m1,rfl⟩)
    | (go_at_call 105; refine (HRA.out _).mono ?_; rintro e' w' ⟨rfl,m2,rfl⟩))
   go_quiet (fail)
   go_wp2
   refine bodyPost_ret (results_tmp5 rfl _ _ _) rfl ⟨?_,_,World.drewN_drewN _ _ _⟩
   have c:=C1.out
   simp only [rr, tt, c,decide_false,Bool.and_false,Bool.false_and]
   rfl
 ·have hr' : rightN b t = false:=by simpa using hr
  unfold encE encB encT encX
  rw [hr',if_neg (by simp),if_neg (by simp),if_neg (by simp)]
  have hcase : (t : Int) < b ∨ ((b : Int) ≤ t ∧ (4294967296 : Int) < t):=by
   simp only [rr, tt, rightN,Bool.and_eq_false_iff,decide_eq_false_iff_not] at hr'; omega
  clear hr hr'
  rcases hcase with h1 | ⟨h1,h2⟩
  ·go_enter Try.func98,Try.ntmps98
   go_wp2
   exact bodyPost_ret (results_tmp5 rfl _ _ _) rfl ⟨rfl,0,rfl⟩
  ·have g1 : decide ((t : Int) < b) = false:=by simp; omega
   go_enter Try.func98,Try.ntmps98
   go_wp2
   exact bodyPost_ret (results_tmp5 rfl _ _ _) rfl ⟨rfl,0,rfl⟩
theorem fits_zero (s k : Nat) : fitsN 0 s k = decide (upN s k ≤ 2048 * 2 ^ k):=by
 unfold fitsN
 have : dnN 0 k = 0:=by unfold dnN; simp
 rw [this,Nat.sub_zero]
theorem rpad_any (s : Nat) (w : World) (hs : s < 4294967296) :
  Calls Try.prog 99 #[.int .u32 s] w fun e' w' => e' = .returned (.tuple #[.int .u32 (padN s),.int .u32 (padA s)]) ∧ ∃ m,w' = w.drewN m:=by
 go_enter Try.func99,Try.ntmps99
 go_wp2
 go_loopw [4] (fun i wr => ∃ k m : Nat,k ≤ 21 ∧ i = .int .u8 k ∧ Hid (expoN 0 s = expoFrom 0 s (21 - k) k) ∧ wr = w.drewN m) (fun i _ => (21 - intOf i).toNat)
 case atStart => exact ⟨0,0,by omega,rfl,rfl,rfl⟩
 case round =>
  obtain ⟨k,m,hk,rfl,HE,rfl⟩:=hrel
  have hd3:=up_whole (t:=s) hk (by omega)
  have hp:=pow_le_21 hk
  have hpw : IntKind.u64.wrap ((2048 : Int) * 2 ^ k) = ((2048 * 2 ^ k : Nat) : Int):=by
   rw [IntKind.wrap_u64,show ((2 : Int) ^ k) = ((2 ^ k : Nat) : Int) by simp]
   generalize 2 ^ k = z at hp
   omega
  have hpw2 : IntKind.u32.wrap ((2 : Int) ^ k) = ((2 ^ k : Nat) : Int):=by
   rw [IntKind.wrap_u32,show ((2 : Int) ^ k) = ((2 ^ k : Nat) : Int) by simp]
   generalize 2 ^ k = z at hp
   omega
  have hz:=fits_zero s k
  obtain ⟨p,hpp⟩ : ∃ p,2048 * 2 ^ k = p:=⟨_,rfl⟩
  obtain ⟨U,hU⟩ : ∃ U,2 ^ k = U:=⟨_,rfl⟩
  obtain ⟨u,hu⟩ : ∃ u,upN s k = u:=⟨_,rfl⟩
  have hra:=fun W => rrounded_any 0 s k W (by omega) (by omega) hk
  rw [hpp,hu] at hz
  rw [hu] at hra hd3
  rw [show dnN 0 k = 0 by unfold dnN; simp] at hra
  rw [hpp] at hpw
  rw [hU] at hpw2
  have HRA:=hide hra
  have HZ:=hide hz
  have HU:=hide hU
  have HU2:=hide hu
  clear hra hpp hu hU hz hp
  by_cases hf : (u : Int) ≤ p
  ·have hft : fitsN 0 s k = true:=by rw [HZ.out]; simp; omega
   have hEk:=expo_here hk HE.out hft
   have HK : Hid (padN s = (if u = 4294967296 then 0 else u) ∧ padA s = (if u = 4294967296 then 0 else U)):=by
    show _ ∧ _
    unfold padN padA; rw [hEk,HU2.out,HU.out]; exact ⟨rfl,rfl⟩
   clear hft hEk
   by_cases c1 : u = 4294967296
   ·have d1 : ((u : Int) == 4294967296) = true:=by rw [c1]; rfl
    have C1:=hide c1
    clear c1
    go_wp2_with (go_at_call 105; refine (HRA.out _).mono ?_; rintro e' w' ⟨rfl,m2,rfl⟩)
    go_ret2
    refine ⟨ret2_both ?_ ?_,_,rfl⟩
    ·rw [HK.out.1,if_pos C1.out]; rfl
    ·rw [HK.out.2,if_pos C1.out]; rfl
   ·have d1 : ((u : Int) == 4294967296) = false:=by simp; omega
    have d2 : (u : Int) < 4294967296:=by omega
    have C1:=hide c1
    clear c1
    go_wp2_with (go_at_call 105; refine (HRA.out _).mono ?_; rintro e' w' ⟨rfl,m2,rfl⟩)
    go_ret2
    refine ⟨ret2_both ?_ ?_,_,rfl⟩
    ·rw [HK.out.1,if_neg C1.out]
    ·rw [HK.out.2,if_neg C1.out]
  ·have hft : fitsN 0 s k = false:=by rw [HZ.out]; simp; omega
   have h21 : k < 21:=by
    rcases Nat.lt_or_ge k 21 with h | h
    ·exact h
    ·obtain rfl : k = 21:=by omega
     rw [fits_21 (by omega)] at hft; cases hft
   have HT : Hid (expoN 0 s = expoFrom 0 s (21 - (k + 1)) (k + 1)):=by
    show _ = _
    rw [HE.out,show 21 - k = (21 - (k + 1)) + 1 by omega,expoFrom,hft]; rfl
   clear hft
   go_wp2_with (go_at_call 105; refine (HRA.out _).mono ?_; rintro e' w' ⟨rfl,m2,rfl⟩)
   go_roundw
   case rel => exact ⟨k + 1,_,by omega,by go_num,HT,rfl⟩
   case measure => simp [intOf]; omega
end Go.Proofs.Ytliidiceljdgmaa
namespace Go.Proofs.Ytliidiceljdgmaa
open Go.RowKit
attribute [local go_sem ↓] Go.wp_at_zero Go.wp_at_succ
def soundN (e b t p y r : Nat) : Bool:=decide (e < 22) && decide (b < 4096) && decide (t < 4096) && decide (p < 256) && decide (y < 4096) && decide (r < 16777216)
def pairsOk (f : Nat → Nat) (n : Nat) : Bool:=decide (∀ k,k < n → f (2 * k) < f (2 * k + 1))
def BelA (w wr : World) (f : Nat → Nat) (i : Value) : Prop:=∃ k : Nat,k ≤ 6 ∧ i = .int .i64 (2 * (k : Int)) ∧ (∀ j,j < k → f (2 * j) < f (2 * j + 1)) ∧ ∃ m,wr = w.drewN m
theorem below_any (g : Nat) (f : Nat → Nat) (w : World) (hc : ∀ j,j < 12 → w.cell? ⟨g,j,none⟩ = some (.int .u32 (f j))) :
  Calls Try.prog 84 #[.slice (some ⟨g,0,none⟩) 12 12] w fun e w' => e = .returned (.bool (pairsOk f 6)) ∧ ∃ m,w' = w.drewN m:=by
 have HC:=hide hc; clear hc
 go_enter Try.func84,Try.ntmps84
 go_wp2
 go_loopw [3] (fun i wr => BelA w wr f i) (fun i _ => 12 - (intOf i).toNat)
 case atStart => exact ⟨0,by omega,rfl,fun j hj => absurd hj (by omega),0,rfl⟩
 case round =>
  obtain ⟨k,hk,rfl,hall,m,rfl⟩:=hrel
  have HA:=hide hall; clear hall
  by_cases hlt : k < 6
  ·have i1 : 2 * (k : Int) + 1 < 12:=by omega
   have i0 : 0 ≤ 2 * (k : Int):=by omega
   have c0:=HC.out (2 * k) (by omega)
   have c1:=HC.out (2 * k + 1) (by omega)
   obtain ⟨x,hx⟩ : ∃ x,f (2 * k) = x:=⟨_,rfl⟩
   obtain ⟨y,hy⟩ : ∃ y,f (2 * k + 1) = y:=⟨_,rfl⟩
   rw [hx] at c0
   rw [hy] at c1
   have e0 : (2 * (k : Int)).toNat = 2 * k:=by omega
   have e1 : (2 * (k : Int) + 1).toNat = 2 * k + 1:=by omega
   have e2 : IntKind.i64.wrap (2 * (k : Int) + 1) = 2 * (k : Int) + 1:=IntWalk.i64_in _ (by omega)
   have e3 : 0 ≤ 2 * (k : Int) + 1:=by omega
   have HX:=hide hx
   have HY:=hide hy
   clear hx hy
   by_cases hxy : x < y
   ·have d1 : decide (y ≤ x) = false:=by simp; omega
    go_wp2_with fail
    go_quiet (fail)
    go_wp2
    go_roundw
    case rel => exact ⟨k + 1,by omega,by first | rfl | (congr 1; omega),fun j hj => by
      by_cases h : j < k
      ·exact HA.out j h
      ·obtain rfl : j = k:=by omega
       rw [HX.out,HY.out]; exact hxy,_,rfl⟩
    case measure => simp [intOf]; omega
   ·have d1 : decide (y ≤ x) = true:=by simp; omega
    go_wp2_with fail
    go_quiet (fail)
    go_wp2
    go_ret
    refine ⟨ret_bool ?_,_,World.drewN_drewN _ _ _⟩
    unfold pairsOk
    symm
    rw [decide_eq_false_iff_not]
    intro h
    have:=h k hlt
    rw [HX.out,HY.out] at this
    exact hxy this
  ·obtain rfl : k = 6:=by omega
   go_wp2
   go_ret
   refine ⟨ret_bool ?_,_,rfl⟩
   unfold pairsOk
   symm
   rw [decide_eq_true_eq]
   exact HA.out
theorem pairs_sound (e b t p y r : Nat) (f : Nat → Nat) (h0 : f 0 = e) (h1 : f 1 = 22) (h2 : f 2 = b) (h3 : f 3 = 4096) (h4 : f 4 = t) (h5 : f 5 = 4096) (h6 : f 6 = p) (h7 : f 7 = 256) (h8 : f 8 = y) (h9 : f 9 = 4096) (h10 : f 10 = r) (h11 : f 11 = 16777216) :
  pairsOk f 6 = soundN e b t p y r:=by
 rw [Bool.eq_iff_iff]
 unfold pairsOk soundN
 simp only [rr, tt, decide_eq_true_eq,Bool.and_eq_true]
 constructor
 ·intro h
  have a0:=h 0 (by omega)
  have a1:=h 1 (by omega)
  have a2:=h 2 (by omega)
  have a3:=h 3 (by omega)
  have a4:=h 4 (by omega)
  have a5:=h 5 (by omega)
  simp only [rr, tt, Nat.mul_zero,Nat.zero_add,Nat.mul_one,Nat.reduceMul,Nat.reduceAdd] at a0 a1 a2 a3 a4 a5
  omega
 ·intro h k hk
  have hk' : k = 0 ∨ k = 1 ∨ k = 2 ∨ k = 3 ∨ k = 4 ∨ k = 5:=by omega
  rcases hk' with rfl | rfl | rfl | rfl | rfl | rfl <;> simp only [rr, tt, Nat.mul_zero,Nat.zero_add,Nat.mul_one,Nat.reduceMul,Nat.reduceAdd] <;> omega
theorem sound_any (cC cE cB cT cP cY cR : Nat) (cV : Bool) (w : World) (cl : capB cC cE cB cT cP cY cR) :
  Calls Try.prog 64 #[.agg #[.int .u32 cC,.int .u8 cE,.int .u16 cB,.int .u16 cT,.int .u16 cP,.int .u16 cY,.int .u32 cR,.bool cV]] w fun e' w' => e' = .returned (.bool (soundN cE cB cT cP cY cR)) ∧ Below w.heap.size w w':=by
 obtain ⟨cCl,cEl,cBl,cTl,cPl,cYl,cRl⟩:=cl
 obtain ⟨f,hf⟩ : ∃ f : Nat → Nat,f = fun j => [cE,22,cB,4096,cT,4096,cP,256,cY,4096,cR,16777216].getD j 0:=⟨_,rfl⟩
 have hps:=pairs_sound cE cB cT cP cY cR f (by rw [hf]; rfl) (by rw [hf]; rfl) (by rw [hf]; rfl) (by rw [hf]; rfl) (by rw [hf]; rfl) (by rw [hf]; rfl) (by rw [hf]; rfl) (by rw [hf]; rfl) (by rw [hf]; rfl) (by rw [hf]; rfl) (by rw [hf]; rfl) (by rw [hf]; rfl)
 have HPS:=hide hps
 have HF : Hid (∀ W g,Blk W g 30 #[.int .u32 cE,.int .u32 22,.int .u32 cB,.int .u32 4096,.int .u32 cT,.int .u32 4096,.int .u32 cP,.int .u32 256,.int .u32 cY,.int .u32 4096,.int .u32 cR,.int .u32 16777216] → ∀ j,j < 12 → W.cell? ⟨g,j,none⟩ = some (.int .u32 (f j))):=fun W g hb j hj => by
  have hj' : j = 0 ∨ j = 1 ∨ j = 2 ∨ j = 3 ∨ j = 4 ∨ j = 5 ∨ j = 6 ∨ j = 7 ∨ j = 8 ∨ j = 9 ∨ j = 10 ∨ j = 11:=by omega
  rcases hj' with rfl | rfl | rfl | rfl | rfl | rfl | rfl | rfl | rfl | rfl | rfl | rfl <;> (rw [hf]; exact hb.cell _)
 clear hps hf
 go_enter Try.func64,Try.ntmps64
 go_wp2_with fail
 refine (below_any _ f _ (HF.out _ _ (Blk.new2 w _ _ _))).mono ?_
 rintro e' w1 ⟨rfl,m,rfl⟩
 go_wp2
 go_ret
 exact ⟨ret_bool HPS.out,by (repeat (first | (with_reducible exact Below.refl _ _) | (with_reducible refine Below.drew ?_) | (with_reducible refine below_drewN ?_ _) | (with_reducible refine Below.alloc ?_ (by simp <;> omega) _) | (with_reducible refine Below.setCell ?_ (by simp <;> omega) _)))⟩
end Go.Proofs.Ytliidiceljdgmaa
namespace Go.Proofs.Ytliidiceljdgmaa
open Go.RowKit
attribute [local go_sem ↓] Go.wp_at_zero Go.wp_at_succ
def accB (b : Nat → Bool) : Nat → Bool
 | 0 => true
 | k + 1 => accB b k && b k
structure Asked (w : World) (g n : Nat) (F : Nat → FuncId) (fi ca : Nat → Array Value) (b : Nat → Bool) : Prop where
 cell : ∀ j,j < n → w.cell? ⟨g,j,none⟩ = some (.func (.func (F j)) (fi j) (ca j))
 calls : ∀ j,j < n → ∀ W,Below w.heap.size w W → Calls Try.prog (F j) (fi j ++ ca j) W fun e W' => e = .returned (.bool (b j)) ∧ Below W.heap.size W W'
 runs : ∀ j,j < n → ∀ W,(callFunc (F j) (fi j ++ ca j)).run Try.prog W = .ok (.enter (F j) (fi j ++ ca j)) W
 lt : g < w.heap.size
def MadeA (w wr : World) (cC cE cB cT cP cY cR : Nat) (n : Nat) (b : Nat → Bool) (i : Value) : Prop :=
 ∃ k : Nat,k ≤ n ∧ i = .int .i64 k ∧ Blk wr w.heap.size 33 #[.int .u32 cC,.int .u8 cE,.int .u16 cB,.int .u16 cT,.int .u16 cP,.int .u16 cY,.int .u32 cR,.bool (accB b k)] ∧
  Blk wr (w.heap.size + 1) 33 #[.int .u32 0,.int .u8 0,.int .u16 0,.int .u16 0,.int .u16 0,.int .u16 0,.int .u32 0,.bool false] ∧ Below w.heap.size w wr
set_option maxHeartbeats 1000000 in
theorem made_any (cC cE cB cT cP cY cR : Nat) (cV : Bool) (g n : Nat) (F : Nat → FuncId) (fi ca : Nat → Array Value) (b : Nat → Bool) (w : World) (hn : n ≤ 1000) (h : Asked w g n F fi ca b) :
  Calls Try.prog 86 #[.agg #[.int .u32 cC,.int .u8 cE,.int .u16 cB,.int .u16 cT,.int .u16 cP,.int .u16 cY,.int .u32 cR,.bool cV],.slice (some ⟨g,0,none⟩) n n] w fun e w' => e = .returned (.agg #[.int .u32 cC,.int .u8 cE,.int .u16 cB,.int .u16 cT,.int .u16 cP,.int .u16 cY,.int .u32 cR,.bool (accB b n)]) ∧ Below w.heap.size w w':=by
 have H:=hide h; clear h
 go_enter Try.func86,Try.ntmps86
 go_wp2
 go_loopw [10] (fun i wr => MadeA w wr cC cE cB cT cP cY cR n b i) (fun i _ => n - (intOf i).toNat)
 case atStart => exact ⟨0,by omega,rfl,Blk.new1 w _ _ _,Blk.new2 w _ _ _,((Below.refl _ _).alloc (Nat.le_refl _) _).alloc (by simp) _⟩
 case round =>
  obtain ⟨k,hk,rfl,hq1,hq2,hb⟩:=hrel
  have f7:=hq1.cell 7
  have z7:=hq1.frozen 7
  have HQ1:=hide hq1
  have HQ2:=hide hq2
  have HB:=hide hb
  simp at f7
  by_cases hlt : k < n
  ·have cg:=(hb.cell (p:=⟨g,k,none⟩) H.out.lt).trans (H.out.cell k hlt)
   have hrun:=H.out.runs k hlt
   have HC:=hide (H.out.calls k hlt wr hb)
   clear hq1 hq2 hb
   obtain ⟨acc,hacc⟩ : ∃ a,accB b k = a:=⟨_,rfl⟩
   have HA : Hid (accB b (k + 1) = (acc && b k)):=by show _ = _; rw [accB,hacc]
   rw [hacc] at f7 HQ1
   clear hacc
   have i1 : (k : Int) < n:=by omega
   cases acc with
   | true =>
    go_wp2_with fail
    refine HC.out.mono ?_
    rintro e w2 ⟨rfl,hb2⟩
    have q1:=HQ1.out.below hb2 HQ1.out.lt
    have q2:=HQ2.out.below hb2 HQ2.out.lt
    have k2:=HB.out.trans (hb2.mono HB.out.size)
    have g7:=q1.cell 7
    have y7:=q1.frozen 7
    simp at g7
    rw [Bool.true_and] at HA
    obtain ⟨r,hr⟩ : ∃ r,b k = r:=⟨_,rfl⟩
    rw [hr] at HA ⊢
    have R1 : Hid (Blk (w2.setCell ⟨w.heap.size,7,none⟩ (.bool r)) w.heap.size 33 #[.int .u32 cC,.int .u8 cE,.int .u16 cB,.int .u16 cT,.int .u16 cP,.int .u16 cY,.int .u32 cR,.bool r]):=q1.set_ 7 _
    have R2 : Hid (Blk (w2.setCell ⟨w.heap.size,7,none⟩ (.bool r)) (w.heap.size + 1) 33 #[.int .u32 0,.int .u8 0,.int .u16 0,.int .u16 0,.int .u16 0,.int .u16 0,.int .u32 0,.bool false]):=q2.far (p:=⟨w.heap.size,7,none⟩) (show w.heap.size + 1 ≠ w.heap.size by omega) _
    have R3 : Hid (Below w.heap.size w (w2.setCell ⟨w.heap.size,7,none⟩ (.bool r))):=k2.setCell (p:=⟨w.heap.size,7,none⟩) (Nat.le_refl _) _
    clear hb2 q1 q2 k2 hr hrun
    go_wp2
    go_roundw
    case rel => exact ⟨k + 1,by omega,by go_num,by rw [HA.out]; exact R1.out,R2.out,R3.out⟩
    case measure => simp [intOf]; omega
   | false =>
    rw [Bool.false_and] at HA
    have R1 : Hid (Blk (wr.setCell ⟨w.heap.size,7,none⟩ (.bool false)) w.heap.size 33 #[.int .u32 cC,.int .u8 cE,.int .u16 cB,.int .u16 cT,.int .u16 cP,.int .u16 cY,.int .u32 cR,.bool false]):=HQ1.out.set_ 7 _
    have R2 : Hid (Blk (wr.setCell ⟨w.heap.size,7,none⟩ (.bool false)) (w.heap.size + 1) 33 #[.int .u32 0,.int .u8 0,.int .u16 0,.int .u16 0,.int .u16 0,.int .u16 0,.int .u32 0,.bool false]):=HQ2.out.far (p:=⟨w.heap.size,7,none⟩) (show w.heap.size + 1 ≠ w.heap.size by omega) _
    have R3 : Hid (Below w.heap.size w (wr.setCell ⟨w.heap.size,7,none⟩ (.bool false))):=HB.out.setCell (p:=⟨w.heap.size,7,none⟩) (Nat.le_refl _) _
    clear hrun
    go_wp2
    go_roundw
    case rel => exact ⟨k + 1,by omega,by go_num,by rw [HA.out]; exact R1.out,R2.out,R3.out⟩
    case measure => simp [intOf]; omega
  ·obtain rfl : k = n:=by omega
   obtain ⟨acc,hacc⟩ : ∃ a,accB b k = a:=⟨_,rfl⟩
   rw [hacc] at HQ1 f7
   have HACC:=hide hacc
   have q1:=HQ1.out
   have q2:=HQ2.out
   clear hq1 hq2 hb hacc
   have c0:=q1.cell 0
   have d0:=q2.cell 0
   have z0:=q2.frozen 0
   have c1:=q1.cell 1
   have d1:=q2.cell 1
   have z1:=q2.frozen 1
   have c2:=q1.cell 2
   have d2:=q2.cell 2
   have z2:=q2.frozen 2
   have c3:=q1.cell 3
   have d3:=q2.cell 3
   have z3:=q2.frozen 3
   have c4:=q1.cell 4
   have d4:=q2.cell 4
   have z4:=q2.frozen 4
   have c5:=q1.cell 5
   have d5:=q2.cell 5
   have z5:=q2.frozen 5
   have c6:=q1.cell 6
   have d6:=q2.cell 6
   have z6:=q2.frozen 6
   have c7:=q1.cell 7
   have d7:=q2.cell 7
   have z7:=q2.frozen 7
   simp at c0 c1 c2 c3 c4 c5 c6 c7 d0 d1 d2 d3 d4 d5 d6 d7
   clear q1 q2
   go_wp2
   refine bodyPost_ret (v:=.agg #[.int .u32 cC,.int .u8 cE,.int .u16 cB,.int .u16 cT,.int .u16 cP,.int .u16 cY,.int .u32 cR,.bool acc]) (by simp [results,Try.results86,go_sem,d0,d1,d2,d3,d4,d5,d6,d7]) rfl ⟨by rw [HACC.out],?_⟩
   repeat (refine Below.setCell ?_ (by simp <;> omega) _)
   exact HB.out
end Go.Proofs.Ytliidiceljdgmaa
namespace Go.Proofs.Ytliidiceljdgmaa
open Go.RowKit
attribute [local go_sem ↓] Go.wp_at_zero Go.wp_at_succ
def freeN (cY : Nat) (cV : Bool) : Bool:=cV && decide (cY = 0)
theorem free_any (cC cE cB cT cP cY cR : Nat) (cV : Bool) (w : World) :
  Calls Try.prog 85 #[.agg #[.int .u32 cC,.int .u8 cE,.int .u16 cB,.int .u16 cT,.int .u16 cP,.int .u16 cY,.int .u32 cR,.bool cV]] w fun e w' => e = .returned (.bool (freeN cY cV)) ∧ Below w.heap.size w w':=by
 have hf : freeN cY cV = (cV && ((cY : Int) == 0)):=by
  unfold freeN
  rw [show decide (cY = 0) = ((cY : Int) == 0) by rw [Bool.eq_iff_iff]; simp]
 rw [hf]
 clear hf
 cases cV with
 | false =>
  rw [Bool.false_and]
  go_enter Try.func85,Try.ntmps85
  go_wp2
  go_ret
  exact ⟨rfl,by (repeat (first | (with_reducible exact Below.refl _ _) | (with_reducible refine Below.drew ?_) | (with_reducible refine below_drewN ?_ _) | (with_reducible refine Below.alloc ?_ (by simp <;> omega) _) | (with_reducible refine Below.setCell ?_ (by simp <;> omega) _)))⟩
 | true =>
  rw [Bool.true_and]
  go_enter Try.func85,Try.ntmps85
  go_wp2
  go_ret
  exact ⟨rfl,by (repeat (first | (with_reducible exact Below.refl _ _) | (with_reducible refine Below.drew ?_) | (with_reducible refine below_drewN ?_ _) | (with_reducible refine Below.alloc ?_ (by simp <;> omega) _) | (with_reducible refine Below.setCell ?_ (by simp <;> omega) _)))⟩
theorem Blk.newAt {W : World} {g : Nat} (h : W.heap.size = g) (t : TypeId) (cs : Array Value) : Blk (W.alloc (.cells cs t)) g t cs:=by subst h; exact Blk.new W t cs
end Go.Proofs.Ytliidiceljdgmaa
namespace Go.Proofs.Ytliidiceljdgmaa
open Go.RowKit
attribute [local go_sem ↓] Go.wp_at_zero Go.wp_at_succ
theorem made2 (cC cE cB cT cP cY cR : Nat) (cV : Bool) (w : World) (g : Nat) (f1 f2 : FuncId) (i1 a1 i2 a2 : Array Value) (b1 b2 : Bool) (h : Blk w g 34 #[.func (.func f1) i1 a1,.func (.func f2) i2 a2])
  (r1 : ∀ W,(callFunc f1 (i1 ++ a1)).run Try.prog W = .ok (.enter f1 (i1 ++ a1)) W) (r2 : ∀ W,(callFunc f2 (i2 ++ a2)).run Try.prog W = .ok (.enter f2 (i2 ++ a2)) W)
  (c1 : ∀ W,Below w.heap.size w W → Calls Try.prog f1 (i1 ++ a1) W fun e W' => e = .returned (.bool b1) ∧ Below W.heap.size W W')
  (c2 : ∀ W,Below w.heap.size w W → Calls Try.prog f2 (i2 ++ a2) W fun e W' => e = .returned (.bool b2) ∧ Below W.heap.size W W') :
  Calls Try.prog 86 #[.agg #[.int .u32 cC,.int .u8 cE,.int .u16 cB,.int .u16 cT,.int .u16 cP,.int .u16 cY,.int .u32 cR,.bool cV],.slice (some ⟨g,0,none⟩) 2 2] w fun e w' => e = .returned (.agg #[.int .u32 cC,.int .u8 cE,.int .u16 cB,.int .u16 cT,.int .u16 cP,.int .u16 cY,.int .u32 cR,.bool (b1 && b2)]) ∧ Below w.heap.size w w':=by
 have:=made_any cC cE cB cT cP cY cR cV g 2 (fun j => if j = 0 then f1 else f2) (fun j => if j = 0 then i1 else i2) (fun j => if j = 0 then a1 else a2) (fun j => if j = 0 then b1 else b2) w (by omega)
  ⟨fun j hj => by
   have hj' : j = 0 ∨ j = 1:=by omega
   rcases hj' with rfl | rfl
   ·exact h.cell 0
   ·exact h.cell 1,
     fun j hj W hW => by
   have hj' : j = 0 ∨ j = 1:=by omega
   rcases hj' with rfl | rfl
   ·exact c1 W hW
   ·exact c2 W hW,
     fun j hj W => by
   have hj' : j = 0 ∨ j = 1:=by omega
   rcases hj' with rfl | rfl
   ·exact r1 W
   ·exact r2 W,h.lt⟩
 exact this
theorem addr1_any (cC cE cB cT cP cY cR : Nat) (cV : Bool) (gf gc : Nat) (w : World) (hf : Blk w gf 141 #[.func (.func 85) #[] #[]]) (hc : Blk w gc 33 #[.int .u32 cC,.int .u8 cE,.int .u16 cB,.int .u16 cT,.int .u16 cP,.int .u16 cY,.int .u32 cR,.bool cV]) :
  Calls Try.prog 87 #[.pointer (some ⟨gf,0,none⟩),.pointer (some ⟨gc,0,none⟩)] w fun e w' => e = .returned (.bool (freeN cY cV)) ∧ Below w.heap.size w w':=by
 have c0:=hf.cell 0
 simp at c0
 have d0:=hc.cell 0
 have d1:=hc.cell 1
 have d2:=hc.cell 2
 have d3:=hc.cell 3
 have d4:=hc.cell 4
 have d5:=hc.cell 5
 have d6:=hc.cell 6
 have d7:=hc.cell 7
 simp at d0 d1 d2 d3 d4 d5 d6 d7
 clear hf hc
 go_enter Try.func87,Try.ntmps87
 go_wp2_with fail
 refine (free_any cC cE cB cT cP cY cR cV _).mono ?_
 rintro e w1 ⟨rfl,hb1⟩
 have HB1:=hide hb1; clear hb1
 go_wp2
 go_ret
 exact ⟨rfl,HB1.out⟩
theorem addr2_any (cC cE cB cT cP cY cR : Nat) (cV : Bool) (to gc gt : Nat) (w : World) (cl : capB cC cE cB cT cP cY cR) (hto : to < 4294967296) (hc : Blk w gc 33 #[.int .u32 cC,.int .u8 cE,.int .u16 cB,.int .u16 cT,.int .u16 cP,.int .u16 cY,.int .u32 cR,.bool cV]) (ht : Blk w gt 30 #[.int .u32 to]) :
  Calls Try.prog 88 #[.pointer (some ⟨gc,0,none⟩),.pointer (some ⟨gt,0,none⟩)] w fun e w' => e = .returned (.bool (keepsN cE cB cT cC to)) ∧ Below w.heap.size w w':=by
 have hk:=fun W => keeps_any cE cB cT cC to W cl.2.1 cl.2.2.1 cl.2.2.2.1 cl.1 hto
 generalize keepsN cE cB cT cC to = k at *
 have HK:=hide hk
 have c0:=ht.cell 0
 simp at c0
 have d0:=hc.cell 0
 have d1:=hc.cell 1
 have d2:=hc.cell 2
 have d3:=hc.cell 3
 simp at d0 d1 d2 d3
 clear hk ht hc
 go_enter Try.func88,Try.ntmps88
 go_wp2_with fail
 refine (HK.out _).mono ?_
 rintro e w1 ⟨rfl,hb1⟩
 have HB1:=hide hb1; clear hb1
 go_wp2
 go_ret
 exact ⟨rfl,HB1.out⟩
theorem addr_any (cC cE cB cT cP cY cR : Nat) (cV : Bool) (to : Nat) (w : World) (cl : capB cC cE cB cT cP cY cR) (hto : to < 4294967296) :
  Calls Try.prog 65 #[.agg #[.int .u32 cC,.int .u8 cE,.int .u16 cB,.int .u16 cT,.int .u16 cP,.int .u16 cY,.int .u32 cR,.bool cV],.int .u32 to] w fun e w' => e = .returned (.agg #[.int .u32 to,.int .u8 cE,.int .u16 cB,.int .u16 cT,.int .u16 cP,.int .u16 cY,.int .u32 cR,.bool (freeN cY cV && keepsN cE cB cT cC to)]) ∧ Below w.heap.size w w':=by
 go_enter Try.func65,Try.ntmps65
 go_wp2_with fail
 refine (made2 to cE cB cT cP cY cR cV _ _ 87 88 #[] #[.pointer (some ⟨w.heap.size + 1 + 1 + 1 + 1,0,none⟩),.pointer (some ⟨w.heap.size,0,none⟩)] #[] #[.pointer (some ⟨w.heap.size,0,none⟩),.pointer (some ⟨w.heap.size + 1,0,none⟩)] (freeN cY cV) (keepsN cE cB cT cC to) (Blk.newAt (by simp) _ _) (fun W => by kernel_rfl) (fun W => by kernel_rfl)
  (fun W hW => addr1_any cC cE cB cT cP cY cR cV (w.heap.size + 1 + 1 + 1 + 1) w.heap.size W (Blk.below (by (repeat (first | (with_reducible exact Blk.new _ _ _) | (with_reducible refine Blk.drewN ?_ _) | (with_reducible refine Blk.drew ?_) | exact Blk.newAt (by simp) _ _ | (with_reducible refine Blk.alloc ?_ _)))) hW (by first | (simp; done) | (simp; omega))) (Blk.below (by (repeat (first | (with_reducible exact Blk.new _ _ _) | (with_reducible refine Blk.drewN ?_ _) | (with_reducible refine Blk.drew ?_) | exact Blk.newAt (by simp) _ _ | (with_reducible refine Blk.alloc ?_ _)))) hW (by first | (simp; done) | (simp; omega))))
  (fun W hW => addr2_any cC cE cB cT cP cY cR cV to w.heap.size (w.heap.size + 1) W cl hto (Blk.below (by (repeat (first | (with_reducible exact Blk.new _ _ _) | (with_reducible refine Blk.drewN ?_ _) | (with_reducible refine Blk.drew ?_) | exact Blk.newAt (by simp) _ _ | (with_reducible refine Blk.alloc ?_ _)))) hW (by first | (simp; done) | (simp; omega))) (Blk.below (by (repeat (first | (with_reducible exact Blk.new _ _ _) | (with_reducible refine Blk.drewN ?_ _) | (with_reducible refine Blk.drew ?_) | exact Blk.newAt (by simp) _ _ | (with_reducible refine Blk.alloc ?_ _)))) hW (by first | (simp; done) | (simp; omega))))).mono ?_
 rintro e w2 ⟨rfl,hb2⟩
 obtain ⟨hc2,hf2⟩:=bcell hb2
 have hz2:=hb2.size
 simp at hz2
 have HB2:=hide hb2; clear hb2
 go_wp2
 refine bodyPost_ret (v:=.agg #[.int .u32 to,.int .u8 cE,.int .u16 cB,.int .u16 cT,.int .u16 cP,.int .u16 cY,.int .u32 cR,.bool (freeN cY cV && keepsN cE cB cT cC to)]) (by simp [results,Try.results65,go_sem,hc2]) rfl ⟨rfl,?_⟩
 repeat (refine Below.setCell ?_ (by simp <;> omega) _)
 exact (Below.trans (by (repeat (first | (with_reducible exact Below.refl _ _) | (with_reducible refine Below.drew ?_) | (with_reducible refine below_drewN ?_ _) | (with_reducible refine Below.alloc ?_ (by simp <;> omega) _) | (with_reducible refine Below.setCell ?_ (by simp <;> omega) _)))) (HB2.out.mono (by simp; omega)))
end Go.Proofs.Ytliidiceljdgmaa
namespace Go.Proofs.Ytliidiceljdgmaa
open Go.RowKit
theorem place_tells (X q z : Nat) (h1 : X ≤ q + 1024) (h2 : q < X + 3072) (h3 : X ≤ z + 1024) (h4 : z < X + 3072) :
  (((q / 4096 : Nat) : Int) - (turnN (q % 4096) (edgeN (X % 4096)) : Nat) + (turnN (z % 4096) (edgeN (X % 4096)) : Nat)) * 4096 + (z % 4096 : Nat) = (z : Int):=by
 unfold turnN edgeN
 split <;> split <;> omega
theorem of_tells {k X c z : Nat} (h1 : X ≤ c / 2 ^ k + 1024) (h2 : c / 2 ^ k < X + 3072) (h3 : X ≤ z + 1024) (h4 : z < X + 3072) : ofN k (X % 4096) c (z % 4096) = ((z * 2 ^ k : Nat) : Int):=by
 unfold ofN highN
 rw [place_tells X (c / 2 ^ k) z h1 h2 h3 h4]
 simp
theorem enc_tells {b t c : Nat} (hb : b < 4294967296) (hbt : b ≤ t) (ht : t ≤ 4294967296)
  (h1 : b / 2 ^ expoN b t ≤ c / 2 ^ expoN b t + 1024) (h2 : c / 2 ^ expoN b t < b / 2 ^ expoN b t + 3072) :
  encE b t = expoN b t ∧ tellB (encE b t) (encB b t) (encT b t) c = (dnN b (expoN b t) : Nat) ∧ tellT (encE b t) (encB b t) (encT b t) c = (upN t (expoN b t) : Nat) ∧ tellOk (encE b t) (encB b t) (encT b t) c = true ∧
   decN (encE b t) (encB b t) (encT b t) c = (dnN b (expoN b t),upN t (expoN b t)):=by
 have hr : rightN b t = true:=by simp [rightN,hbt,ht]
 have hk:=expo_le b t
 have hf:=expo_fits (b:=b) ht
 have hd1:=dn_le b (expoN b t)
 have hu1:=up_ge t (expoN b t)
 have hw:=up_whole (t:=t) hk ht
 unfold encE encB encT
 rw [if_pos hr,if_pos hr,if_pos hr]
 have hY : upN t (expoN b t) / 2 ^ expoN b t * 2 ^ expoN b t = upN t (expoN b t):=by
  unfold upN; rw [Nat.mul_div_cancel _ (pow_pos2 _)]
 have hX : b / 2 ^ expoN b t * 2 ^ expoN b t = dnN b (expoN b t):=rfl
 generalize expoN b t = k at *
 have hp:=pow_pos2 k
 have hXY : b / 2 ^ k ≤ upN t k / 2 ^ k:=Nat.div_le_div_right (by omega)
 have hYX : upN t k / 2 ^ k ≤ b / 2 ^ k + 2048:=by
  unfold fitsN at hf
  simp only [rr, tt, decide_eq_true_eq] at hf
  have : upN t k / 2 ^ k * 2 ^ k ≤ (b / 2 ^ k + 2048) * 2 ^ k:=by rw [hY,Nat.add_mul,hX]; omega
  exact Nat.le_of_mul_le_mul_right this hp
 have hmay : mayN k (b / 2 ^ k % 4096) (upN t k / 2 ^ k % 4096) = true:=mayN_mk hk (by omega) (by omega)
 have hB : tellB k (b / 2 ^ k % 4096) (upN t k / 2 ^ k % 4096) c = (dnN b k : Nat):=by
  unfold tellB; rw [if_pos hmay,of_tells h1 h2 (by omega) (by omega),hX]
 have hT : tellT k (b / 2 ^ k % 4096) (upN t k / 2 ^ k % 4096) c = (upN t k : Nat):=by
  unfold tellT; rw [if_pos hmay,of_tells h1 h2 (by omega) (by omega),hY]
 have hO : tellOk k (b / 2 ^ k % 4096) (upN t k / 2 ^ k % 4096) c = true:=by
  unfold tellOk
  rw [hmay,hB,hT]
  simp only [rr, tt, Bool.and_eq_true,decide_eq_true_eq]
  exact ⟨⟨⟨trivial,by omega⟩,by omega⟩,by omega⟩
 refine ⟨rfl,hB,hT,hO,?_⟩
 unfold decN
 rw [if_pos ⟨hO,by rw [hB]; omega⟩,hB,hT]
 rfl
theorem enc_at {b t c : Nat} (hb : b < 4294967296) (hbt : b ≤ t) (ht : t ≤ 4294967296) (h1 : b ≤ c) (h2 : c ≤ t) :
  decN (encE b t) (encB b t) (encT b t) c = (dnN b (expoN b t),upN t (expoN b t)):=by
 have hf:=expo_fits (b:=b) ht
 have hu1:=up_ge t (expoN b t)
 refine (enc_tells hb hbt ht (Nat.le_trans (Nat.div_le_div_right h1) (Nat.le_add_right _ _)) ?_).2.2.2.2
 have hY : upN t (expoN b t) / 2 ^ expoN b t * 2 ^ expoN b t = upN t (expoN b t):=by
  unfold upN; rw [Nat.mul_div_cancel _ (pow_pos2 _)]
 have hX : b / 2 ^ expoN b t * 2 ^ expoN b t = dnN b (expoN b t):=rfl
 generalize expoN b t = k at *
 have hp:=pow_pos2 k
 unfold fitsN at hf
 simp only [rr, tt, decide_eq_true_eq] at hf
 have h3 : c / 2 ^ k ≤ upN t k / 2 ^ k:=Nat.div_le_div_right (by omega)
 have h4 : upN t k / 2 ^ k * 2 ^ k ≤ (b / 2 ^ k + 2048) * 2 ^ k:=by rw [hY,Nat.add_mul,hX]; omega
 have h5:=Nat.le_of_mul_le_mul_right h4 hp
 omega
theorem dn_mul (a k j : Nat) (h : j ≤ k) : dnN (a * 2 ^ k) j = a * 2 ^ k:=by
 unfold dnN
 have e : a * 2 ^ k = a * 2 ^ (k - j) * 2 ^ j:=by rw [Nat.mul_assoc,← Nat.pow_add,Nat.sub_add_cancel h]
 rw [e,Nat.mul_div_cancel _ (pow_pos2 j)]
theorem up_mul (a k j : Nat) (h : j ≤ k) : upN (a * 2 ^ k) j = a * 2 ^ k:=by
 refine Nat.le_antisymm ?_ (up_ge _ _)
 have e : a * 2 ^ k = a * 2 ^ (k - j) * 2 ^ j:=by rw [Nat.mul_assoc,← Nat.pow_add,Nat.sub_add_cancel h]
 rw [e]
 exact up_least (Nat.le_refl _)
theorem pad_exact {a p k : Nat} (hp : p * 2 ^ k ≤ 2048 * 2 ^ k) (ht : a * 2 ^ k + p * 2 ^ k ≤ 4294967296) : encX (a * 2 ^ k) (a * 2 ^ k + p * 2 ^ k) = true ∧ rightN (a * 2 ^ k) (a * 2 ^ k + p * 2 ^ k) = true:=by
 have hr : rightN (a * 2 ^ k) (a * 2 ^ k + p * 2 ^ k) = true:=by simp [rightN,ht]
 refine ⟨?_,hr⟩
 have e : a * 2 ^ k + p * 2 ^ k = (a + p) * 2 ^ k:=by rw [Nat.add_mul]
 have hle : expoN (a * 2 ^ k) (a * 2 ^ k + p * 2 ^ k) ≤ k:=by
  rcases Nat.lt_or_ge k (expoN (a * 2 ^ k) (a * 2 ^ k + p * 2 ^ k)) with h | h
  ·have:=expo_least h
   unfold fitsN at this
   rw [dn_mul _ _ _ (Nat.le_refl k),e,up_mul _ _ _ (Nat.le_refl k),← e] at this
   simp only [rr, tt, decide_eq_false_iff_not] at this
   omega
  ·exact h
 unfold encX
 rw [hr,dn_mul _ _ _ hle]
 have : upN (a * 2 ^ k + p * 2 ^ k) (expoN (a * 2 ^ k) (a * 2 ^ k + p * 2 ^ k)) = a * 2 ^ k + p * 2 ^ k:=by
  generalize expoN (a * 2 ^ k) (a * 2 ^ k + p * 2 ^ k) = j at hle
  rw [e,up_mul _ _ _ hle]
 rw [this]
 simp
theorem small_exact {b t : Nat} (h : b ≤ t) (h2 : t ≤ b + 2048) (ht : t ≤ 4294967296) : expoN b t = 0:=by
 refine expo_unique ?_ (fun j hj => by omega) ht
 unfold fitsN upN dnN
 simp
 omega
end Go.Proofs.Ytliidiceljdgmaa
namespace Go.Proofs.Ytliidiceljdgmaa
open Go.RowKit
open Sy
set_option maxRecDepth 100000
def mA (a s p : Nat) : Nat:=if makeOk a s p then a else 0
def mE (a s p : Nat) : Nat:=if makeOk a s p then encE a (a + s) else 0
def mB (a s p : Nat) : Nat:=if makeOk a s p then encB a (a + s) else 0
def mT (a s p : Nat) : Nat:=if makeOk a s p then encT a (a + s) else 0
def mP (a s p : Nat) : Nat:=if makeOk a s p then p else 0
def mV (a s p : Nat) : Bool:=makeOk a s p
def makeV (a s p : Nat) : Value:=.tuple ⟨[.agg ⟨[.int .u32 (mA a s p : Nat),.int .u8 (mE a s p : Nat),.int .u16 (mB a s p : Nat),.int .u16 (mT a s p : Nat),.int .u16 (mP a s p : Nat),.int .u16 0,.int .u32 0,.bool (mV a s p)]⟩,.bool (mV a s p)]⟩
def makeZ (a s p : Int) : Con:=Con.pure [.agg ⟨[.int .u32 a,.int .u32 s]⟩,.int .u16 p] (makeV a.toNat s.toNat p.toNat)
def makeHyp (a s p : Int) : Prop:=0 ≤ a ∧ a < 4294967296 ∧ 0 ≤ s ∧ s < 4294967296 ∧ 0 ≤ p
theorem make_con (a s p : Int) (h : makeHyp a s p) : ConOk Try.prog 77 3 (makeZ a s p):=by
 obtain ⟨h1,h2,h3,h4,h5⟩:=h
 obtain ⟨a,rfl⟩:=Int.eq_ofNat_of_zero_le h1
 obtain ⟨s,rfl⟩:=Int.eq_ofNat_of_zero_le h3
 obtain ⟨p,rfl⟩:=Int.eq_ofNat_of_zero_le h5
 refine conOk_pure (d:=1) (enters_b ar_names (by kernel_rfl)) (fun u hu => ?_) rfl fun w => ?_
 ·simp only [rr, tt, List.mem_cons,List.not_mem_nil,or_false] at hu
  rcases hu with rfl | rfl <;> rfl
 ·cases hm : makeOk a s p
  ·have:=make_n a s p w (by omega) (by omega) hm
   simp only [rr, tt, makeV,mA,mE,mB,mT,mP,mV,Int.toNat_natCast,hm,Bool.false_eq_true,if_false]
   exact this
  ·have:=make_y a s p w (by omega) (by omega) hm
   simp only [rr, tt, makeV,mA,mE,mB,mT,mP,mV,Int.toNat_natCast,hm,if_true]
   exact this
def adV (c e b t y : Nat) (v : Bool) (to : Nat) : Bool:=freeN y v && keepsN e b t c to
def addrZ (c e b t p y r : Int) (v : Bool) (to : Int) : Con:=Con.pure [.agg ⟨[.int .u32 c,.int .u8 e,.int .u16 b,.int .u16 t,.int .u16 p,.int .u16 y,.int .u32 r,.bool v]⟩,.int .u32 to] (.agg ⟨[.int .u32 to,.int .u8 e,.int .u16 b,.int .u16 t,.int .u16 p,.int .u16 y,.int .u32 r,.bool (adV c.toNat e.toNat b.toNat t.toNat y.toNat v to.toNat)]⟩)
def addrHyp (c e b t p y r to : Int) : Prop:=0 ≤ c ∧ c < 4294967296 ∧ 0 ≤ e ∧ e < 256 ∧ 0 ≤ b ∧ b < 65536 ∧ 0 ≤ t ∧ t < 65536 ∧ 0 ≤ p ∧ p < 65536 ∧ 0 ≤ y ∧ y < 65536 ∧ 0 ≤ r ∧ r < 4294967296 ∧ 0 ≤ to ∧ to < 4294967296
theorem addr_con (c e b t p y r : Int) (v : Bool) (to : Int) (h : addrHyp c e b t p y r to) : ConOk Try.prog 65 3 (addrZ c e b t p y r v to):=by
 obtain ⟨h1,h2,h3,h4,h5,h6,h7,h8,h9,h10,h11,h12,h13,h14,h15,h16⟩:=h
 obtain ⟨c,rfl⟩:=Int.eq_ofNat_of_zero_le h1
 obtain ⟨e,rfl⟩:=Int.eq_ofNat_of_zero_le h3
 obtain ⟨b,rfl⟩:=Int.eq_ofNat_of_zero_le h5
 obtain ⟨t,rfl⟩:=Int.eq_ofNat_of_zero_le h7
 obtain ⟨p,rfl⟩:=Int.eq_ofNat_of_zero_le h9
 obtain ⟨y,rfl⟩:=Int.eq_ofNat_of_zero_le h11
 obtain ⟨r,rfl⟩:=Int.eq_ofNat_of_zero_le h13
 obtain ⟨to,rfl⟩:=Int.eq_ofNat_of_zero_le h15
 refine conOk_pure (d:=1) (enters_b ar_names (by kernel_rfl)) (fun u hu => ?_) rfl fun w => ?_
 ·simp only [rr, tt, List.mem_cons,List.not_mem_nil,or_false] at hu
  rcases hu with rfl | rfl <;> rfl
 ·exact addr_any c e b t p y r v to w (by unfold capB; omega) (by omega)
theorem mE_lt (a s p : Nat) : mE a s p < 256:=by
 unfold mE encE
 split
 ·split
  ·have:=expo_le a (a + s); omega
  ·omega
 ·omega
theorem mB_lt (a s p : Nat) : mB a s p < 65536:=by
 unfold mB encB
 split
 ·split
  ·omega
  ·omega
 ·omega
theorem mT_lt (a s p : Nat) : mT a s p < 65536:=by
 unfold mT encT
 split
 ·split
  ·omega
  ·omega
 ·omega
theorem mP_le (a s p : Nat) : mP a s p ≤ p:=by
 unfold mP; split <;> omega
theorem mA_le (a s p : Nat) : mA a s p ≤ a:=by
 unfold mA; split <;> omega
theorem make0 (c p : Nat) (h1 : c % 256 = 0) (h2 : c ≤ 500000) (hp : p ≤ 255) : makeOk 0 c p = true:=by
 have hr : rightN 0 c = true:=by simp [rightN]; omega
 have hf : fitsN 0 c 8 = true:=by
  simp only [rr, tt, fitsN,upN,dnN,decide_eq_true_eq,show (2 : Nat) ^ 8 = 256 from rfl]
  omega
 have he : expoN 0 c ≤ 8:=by
  rcases Nat.lt_or_ge 8 (expoN 0 c) with h | h
  ·have:=expo_least h; rw [hf] at this; cases this
  ·exact h
 simp only [rr, tt, makeOk,encX,Nat.zero_add,hr,Bool.true_and]
 obtain ⟨e,hE⟩ : ∃ e,expoN 0 c = e:=⟨_,rfl⟩
 rw [hE] at he ⊢
 have h3 : dnN 0 e = 0:=by simp [dnN]
 have h4 : upN c e = c:=by
  have : e = 0 ∨ e = 1 ∨ e = 2 ∨ e = 3 ∨ e = 4 ∨ e = 5 ∨ e = 6 ∨ e = 7 ∨ e = 8:=by omega
  unfold upN
  rcases this with rfl | rfl | rfl | rfl | rfl | rfl | rfl | rfl | rfl <;> omega
 simp only [rr, tt, h3,h4,decide_true,Bool.and_self,Bool.and_true]
 rw [decide_eq_true hp,decide_eq_true (by omega : c ≤ 4294967296)]
 rfl
end Go.Proofs.Ytliidiceljdgmaa
namespace Go.Proofs.Ytliidiceljdgmaa
open Go.RowKit
open Sy
set_option maxRecDepth 100000
def cpV (c e b t p y r : Nat) (v : Bool) : Value:=.agg ⟨[.int .u32 (c : Nat),.int .u8 (e : Nat),.int .u16 (b : Nat),.int .u16 (t : Nat),.int .u16 (p : Nat),.int .u16 (y : Nat),.int .u32 (r : Nat),.bool v]⟩
theorem cby_p (c e b t p y r : Int) (v : Bool) : obs (evF Try.prog noBase noLoop 100 20 62 [Value.agg ⟨[.int .u32 c,.int .u8 e,.int .u16 b,.int .u16 t,.int .u16 p,.int .u16 y,.int .u32 r,.bool v]⟩] (stT [])) = some (Value.string ⟨⟨[UInt8.ofNat (IntKind.u8.wrap (c.fdiv (1:Int))).toNat,UInt8.ofNat (IntKind.u8.wrap (c.fdiv (256:Int))).toNat,UInt8.ofNat (IntKind.u8.wrap (c.fdiv (65536:Int))).toNat,UInt8.ofNat (IntKind.u8.wrap (c.fdiv (16777216:Int))).toNat,UInt8.ofNat (IntKind.u8.wrap ((IntKind.u32.wrap e).fdiv (1:Int))).toNat,UInt8.ofNat (IntKind.u8.wrap ((IntKind.u32.wrap b).fdiv (1:Int))).toNat,UInt8.ofNat (IntKind.u8.wrap ((IntKind.u32.wrap b).fdiv (256:Int))).toNat,UInt8.ofNat (IntKind.u8.wrap ((IntKind.u32.wrap t).fdiv (1:Int))).toNat,UInt8.ofNat (IntKind.u8.wrap ((IntKind.u32.wrap t).fdiv (256:Int))).toNat,UInt8.ofNat (IntKind.u8.wrap ((IntKind.u32.wrap p).fdiv (1:Int))).toNat,UInt8.ofNat (IntKind.u8.wrap ((IntKind.u32.wrap p).fdiv (256:Int))).toNat,UInt8.ofNat (IntKind.u8.wrap ((IntKind.u32.wrap y).fdiv (1:Int))).toNat,UInt8.ofNat (IntKind.u8.wrap ((IntKind.u32.wrap y).fdiv (256:Int))).toNat,UInt8.ofNat (IntKind.u8.wrap ((bits BinOp.and IntKind.u32 r (65535:Int)).fdiv (1:Int))).toNat,UInt8.ofNat (IntKind.u8.wrap ((bits BinOp.and IntKind.u32 r (65535:Int)).fdiv (256:Int))).toNat,UInt8.ofNat (IntKind.u8.wrap ((bits BinOp.and IntKind.u32 (r.fdiv (65536:Int)) (255:Int)).fdiv (1:Int))).toNat]⟩⟩,True):=by kernel_rfl
def cbL (c e b t p y r : Nat) : List UInt8:=leW 4 c ++ (leW 1 e ++ (leW 2 b ++ (leW 2 t ++ (leW 2 p ++ (leW 2 y ++ (leW 2 r ++ leW 1 (r / 65536)))))))
theorem cbL_len (c e b t p y r : Nat) : (cbL c e b t p y r).length = 16:=by simp [cbL,leW_len]
structure CpB (c e b t p y r : Nat) : Prop where
 c : c < 4294967296
 e : e < 256
 b : b < 65536
 t : t < 65536
 p : p < 65536
 y : y < 65536
 r : r < 4294967296
theorem andA (n k : Nat) (h : n < 4294967296) (hk : k ≤ 32) : bits .and .u32 (n : Int) ((2 ^ k - 1 : Nat) : Int) = ((n % 2 ^ k : Nat) : Int):=by
 show IntKind.u32.wrap ((BitVec.ofInt 32 (n : Int) &&& BitVec.ofInt 32 ((2 ^ k - 1 : Nat) : Int)).toNat : Int) = _
 have h1 : 2 ^ k ≤ 2 ^ 32:=Nat.pow_le_pow_right (by omega) hk
 have h0 : 0 < 2 ^ k:=Nat.two_pow_pos k
 rw [BitVec.toNat_and,BitVec.ofInt_natCast,BitVec.ofInt_natCast,BitVec.toNat_ofNat,BitVec.toNat_ofNat,Nat.mod_eq_of_lt (by omega),Nat.mod_eq_of_lt (by omega),Nat.and_two_pow_sub_one_eq_mod]
 have:=Nat.mod_le n (2 ^ k)
 exact w32A _ (by omega)
def cbyC (c e b t p y r : Nat) (v : Bool) : Con:=Con.pure [cpV c e b t p y r v] (.string ⟨⟨cbL c e b t p y r⟩⟩)
theorem cby_con (c e b t p y r : Nat) (v : Bool) (h : CpB c e b t p y r) : ConOk Try.prog 62 3 (cbyC c e b t p y r v):=by
 obtain ⟨h1,h2,h3,h4,h5,h6,h7⟩:=h
 have hr:=cby_p (c : Int) (e : Int) (b : Int) (t : Int) (p : Int) (y : Int) (r : Int) v
 have fd0 : ∀ n : Nat,(n : Int).fdiv (1 : Int) = ((n : Nat) : Int):=fun n => by rw [show (1 : Int) = ((1 : Nat) : Int) from rfl,fdA,Nat.div_one]
 have fd1 : ∀ n : Nat,(n : Int).fdiv (256 : Int) = ((n / 256 : Nat) : Int):=fun n => fdA n 256
 have fd2 : ∀ n : Nat,(n : Int).fdiv (65536 : Int) = ((n / 65536 : Nat) : Int):=fun n => fdA n 65536
 have fd3 : ∀ n : Nat,(n : Int).fdiv (16777216 : Int) = ((n / 16777216 : Nat) : Int):=fun n => fdA n 16777216
 have a1 : ∀ n : Nat,n < 4294967296 → bits .and .u32 (n : Int) (65535 : Int) = ((n % 65536 : Nat) : Int):=fun n hn => andA n 16 hn (by omega)
 have a2 : ∀ n : Nat,n < 4294967296 → bits .and .u32 (n : Int) (255 : Int) = ((n % 256 : Nat) : Int):=fun n hn => andA n 8 hn (by omega)
 simp (disch:=omega) only [rr, tt, fd0,fd1,fd2,fd3,a1,a2,w32A,w8A] at hr
 have d2 : ∀ n : Nat,n / 65536 = n / 256 / 256:=fun n => by omega
 have d3 : ∀ n : Nat,n / 16777216 = n / 256 / 256 / 256:=fun n => by omega
 have m1 : r % 65536 % 256 = r % 256:=by omega
 have m2 : r % 65536 / 256 % 256 = r / 256 % 256:=by omega
 simp only [rr, tt, m1,m2,d2,d3,Nat.mod_mod] at hr
 have hl : cbL c e b t p y r = [UInt8.ofNat (c % 256),UInt8.ofNat (c / 256 % 256),UInt8.ofNat (c / 256 / 256 % 256),UInt8.ofNat (c / 256 / 256 / 256 % 256),UInt8.ofNat (e % 256),UInt8.ofNat (b % 256),UInt8.ofNat (b / 256 % 256),UInt8.ofNat (t % 256),UInt8.ofNat (t / 256 % 256),UInt8.ofNat (p % 256),UInt8.ofNat (p / 256 % 256),UInt8.ofNat (y % 256),UInt8.ofNat (y / 256 % 256),UInt8.ofNat (r % 256),UInt8.ofNat (r / 256 % 256),UInt8.ofNat (r / 256 / 256 % 256)]:=by
  simp only [rr, tt, cbL,leW,List.cons_append,List.nil_append,d2]
 unfold cbyC
 rw [hl]
 exact pure_run (d:=1) (run_ok (L:=100) ar_names (noBase_ok _) (noLoop_ok _) 20) hr trivial rfl rfl
def sndC (c e b t p y r : Nat) (v : Bool) : Con:=Con.pure [cpV c e b t p y r v] (.bool (soundN e b t p y r))
theorem snd_con (c e b t p y r : Nat) (v : Bool) (h : CpB c e b t p y r) : ConOk Try.prog 64 3 (sndC c e b t p y r v):=by
 obtain ⟨h1,h2,h3,h4,h5,h6,h7⟩:=h
 refine conOk_pure (d:=1) (enters_b ar_names (by kernel_rfl)) (fun u hu => ?_) rfl fun w => ?_
 ·obtain rfl:=List.mem_singleton.1 hu; rfl
 ·exact sound_any c e b t p y r v w (by unfold capB; omega)
end Go.Proofs.Ytliidiceljdgmaa
namespace Go.Proofs.Ytliidiceljdgmaa
open Go.RowKit
open Sy
set_option maxRecDepth 100000
def arW (rw : Bool) (zs : List UInt8) (f : Nat → Bool) (N m n : Nat) : Sy.Heap:=[(67,⟨rw,none,[.pointer (some ⟨66,0,none⟩),.slice (some ⟨64,0,none⟩) N (big + 64)],none⟩),(66,⟨rw,none,[.int .i64 (m : Nat),.slice (some ⟨65,0,none⟩) n (big + 65)],none⟩),(65,⟨rw,some (65,1),v64 (wordsB f n),none⟩),(64,⟨rw,some (64,1),u8s zs,none⟩)]
def scL (g m n : Nat) (f : Nat → Bool) (cv : Int) (c e b t p y r : Nat) (k : Bool) : Sy.Steps :=
 [(69,62,cbyC c e b t p y r true,[]),(71,83,clwC g m n f cv,[64,65,66,67]),(71,64,sndC c e b t p y r true,[]),(71,63,ptwC g m n (setB f g false) k,[64,65,66,67])]
def gtD (x : Int) (m n : Nat) (f : Nat → Bool) : Con:=⟨[.pointer (some ⟨66,0,none⟩),.int .i64 x],68,mpW false m (wordsB f n),[(65,n)],.bool (f x.toNat),68,[],[]⟩
def selGt (m n : Nat) (f : Nat → Bool) : SelC:=fun fn args _ => bif Nat.beq fn 43 then
 match args with
 | [_,.int .i64 x] => some (gtD x m n f,[64,65,66,67],0 ≤ x ∧ x < m)
 | _ => none
 else none
theorem sc_t (a g c e b t p y r : Nat) (zs : List UInt8) (f : Nat → Bool) (cv : Int) (N m n : Nat) : evF Try.prog (baseF 3 (selSteps (scL g m n f cv c e b t p y r (soundN e b t p y r))) noBase) noLoop 100 40 39 [Value.pointer (some ⟨67,0,none⟩),.int .u32 (↑a),cpV c e b t p y r true] ⟨68,arW true zs f N m n,arO N n,0,[(0,true),(1,true),(2,true),(3,false),(4,false),(5,false),(6,false),(7,false),(8,false),(9,true),(10,true),(11,true),(12,true),(13,true),(14,true),(15,true),(16,true),(17,true),(18,true),(19,true),(20,true),(21,true),(22,true),(23,true),(24,true),(25,true),(26,true),(27,true),(28,true),(29,true),(30,true),(31,true),(32,false),(33,false),(34,false),(35,false),(36,false),(37,false),(38,false),(39,true),(40,true),(41,true),(42,true),(43,true),(44,true),(45,true),(46,true),(47,true),(48,true),(49,true),(50,true),(51,true),(52,true),(53,true),(54,true),(55,true),(56,true),(57,true),(58,true),(59,true),(60,true),(61,false),(62,true),(63,true),(64,true),(65,true),(66,true)],0,True⟩ = some (Value.bool true,{ n:=71,h:=[(65,⟨true,some (65,1),v64 (wordsB (setB (setB f g false) g (soundN e b t p y r)) n),none⟩),(66,⟨true,none,[Value.int .i64 (↑m),.slice (some ⟨65,0,none⟩) n 9223372036854775873],none⟩),(64,⟨true,some (64,1),setAt (0+(↑a:Int).toNat * 1) (List.take ((lenT (cbL c e b t p y r)).min (N - (↑a:Int).toNat) * 1) (List.drop 0 (List.map (fun c => Value.int .u8 (↑c.toNat)) (cbL c e b t p y r)))) (u8s zs),none⟩),(67,⟨true,none,[Value.pointer (some ⟨66,0,none⟩),.slice (some ⟨64,0,none⟩) N 9223372036854775872],none⟩)],lo:=[(70,N - (↑a:Int).toNat),(69,lenT (cbL c e b t p y r)),(65,n),(64,N)],esc:=0,T:=[],k:=67,O:=(((((((bif hasN (0+(↑a:Int).toNat * 1+lenT (List.take ((lenT (cbL c e b t p y r)).min (N - (↑a:Int).toNat) * 1) (List.drop 0 (List.map (fun c => Value.int .u8 (↑c.toNat)) (cbL c e b t p y r))))) (u8s zs) && oneC (List.take ((lenT (cbL c e b t p y r)).min (N - (↑a:Int).toNat) * 1) (List.drop 0 (List.map (fun c => Value.int .u8 (↑c.toNat)) (cbL c e b t p y r)))) && (List.take ((lenT (cbL c e b t p y r)).min (N - (↑a:Int).toNat) * 1) (List.drop 0 (List.map (fun c => Value.int .u8 (↑c.toNat)) (cbL c e b t p y r)))).all flat0 then bif (lenT (List.take ((lenT (cbL c e b t p y r)).min (N - (↑a:Int).toNat) * 1) (List.drop 0 (List.map (fun c => Value.int .u8 (↑c.toNat)) (cbL c e b t p y r))))).beq ((lenT (cbL c e b t p y r)).min (N - (↑a:Int).toNat) * 1) then bif hasN (0+(lenT (cbL c e b t p y r)).min (N - (↑a:Int).toNat) * 1) (List.map (fun c => Value.int .u8 (↑c.toNat)) (cbL c e b t p y r)) then (bif decide ((0:Int) ≤ (↑a:Int)) && decide ((↑a:Int) ≤ (↑N:Int)) then ((((((((((((((((((((((((((((((((((((((((((((((((((((((((((((((True∧((↑a:Int).tmod (16:Int) == (0:Int)) = true)∧((↑a:Int).tmod (16:Int) == (0:Int)) = true)∧((↑a:Int).tmod (16:Int) == (0:Int)) = true)∧rr false)∧rr false)∧rr false)∧rr false)∧rr false)∧rr false)∧tt)∧tt)∧tt)∧tt)∧tt)∧tt)∧tt)∧tt)∧tt)∧tt)∧tt)∧decide ((16:Int) ≤ (↑N:Int)) = true)∧decide ((16:Int) ≤ (↑N:Int)) = true)∧decide ((16:Int) ≤ (↑N:Int)) = true)∧decide ((16:Int) ≤ (↑N:Int)) = true)∧decide ((16:Int) ≤ (↑N:Int)) = true)∧decide ((16:Int) ≤ (↑N:Int)) = true)∧decide ((16:Int) ≤ (↑N:Int)) = true)∧decide ((16:Int) ≤ (↑N:Int)) = true)∧decide ((16:Int) ≤ (↑N:Int)) = true)∧decide ((16:Int) ≤ (↑N:Int)) = true)∧decide ((16:Int) ≤ (↑N:Int)) = true)∧((↑a:Int).tmod (16:Int) == (0:Int)) = true)∧(!decide (IntKind.i64.wrap (↑a) ≤ IntKind.i64.wrap ((↑N:Int) - (16:Int)))) = false)∧True∧(rr (Value.agg ⟨[.int .u32 (↑c),.int .u8 (↑e),.int .u16 (↑b),.int .u16 (↑t),.int .u16 (↑p),.int .u16 (↑y),.int .u32 (↑r),.bool true]⟩)∧True)∧True∧True)∧rr false)∧rr false)∧rr false)∧rr false)∧rr false)∧rr false)∧tt)∧tt)∧tt)∧decide ((↑(lenT (cbL c e b t p y r)):Int) ≥ (0:Int)) = true)∧decide ((↑(lenT (cbL c e b t p y r)):Int) ≥ (0:Int)) = true)∧decide ((↑(lenT (cbL c e b t p y r)):Int) ≥ (0:Int)) = true)∧decide ((↑(lenT (cbL c e b t p y r)):Int) ≥ (0:Int)) = true)∧decide ((↑(lenT (cbL c e b t p y r)):Int) ≥ (0:Int)) = true)∧decide ((↑(lenT (cbL c e b t p y r)):Int) ≥ (0:Int)) = true)∧decide ((↑(lenT (cbL c e b t p y r)):Int) ≥ (0:Int)) = true)∧decide ((↑(lenT (cbL c e b t p y r)):Int) ≥ (0:Int)) = true)∧decide ((↑(lenT (cbL c e b t p y r)):Int) ≤ (↑N:Int)) = true)∧decide ((↑(lenT (cbL c e b t p y r)):Int) ≤ (↑N:Int)) = true)∧decide ((↑(lenT (cbL c e b t p y r)):Int) ≤ (↑N:Int)) = true)∧decide ((↑(lenT (cbL c e b t p y r)):Int) ≤ (↑N:Int)) = true)∧decide ((↑(lenT (cbL c e b t p y r)):Int) ≤ (↑N:Int)) = true)∧decide ((↑(lenT (cbL c e b t p y r)):Int) ≤ (↑N:Int)) = true)∧decide ((↑(lenT (cbL c e b t p y r)):Int) ≤ (↑N:Int)) = true)∧decide ((↑(lenT (cbL c e b t p y r)):Int) ≤ (↑N:Int)) = true)∧decide ((↑(lenT (cbL c e b t p y r)):Int) ≤ (↑N:Int)) = true)∧decide ((↑(lenT (cbL c e b t p y r)):Int) ≤ (↑N:Int)) = true)∧decide ((↑(lenT (cbL c e b t p y r)):Int) ≤ (↑N:Int)) = true)∧(!decide (IntKind.i64.wrap (↑a) ≤ IntKind.i64.wrap ((↑N:Int) - (↑(lenT (cbL c e b t p y r)):Int)))) = false else False)∧(↑a:Int).toNat.blt N = true else False else False else False)∧decide ((↑(lenT (cbL c e b t p y r)):Int) > (0:Int)) = true)∧True∧(rr (Value.pointer (some ⟨66,0,none⟩))∧Value.int .i64 (IntKind.i64.wrap ((IntKind.i64.wrap (↑a)).tdiv (16:Int))) = Value.int .i64 (↑g)∧Value.int .i64 (IntKind.i64.wrap (IntKind.i64.wrap ((IntKind.i64.wrap (IntKind.i64.wrap (IntKind.i64.wrap (↑a)+(↑(lenT (cbL c e b t p y r)):Int)) - (1:Int))).tdiv (16:Int))+(1:Int))) = Value.int .i64 (↑(g+1))∧True)∧((tt∧tt∧tt∧tt∧tt∧True∧[Value.int .i64 (↑m),.slice (some ⟨65,0,none⟩) n 9223372036854775873] = [Value.int .i64 (↑m),.slice (some ⟨65,0,none⟩) (wordsB f n).length 9223372036854775873])∧(tt∧(v64 (wordsB f n)).all (okV (fun l => l.blt 68) 3) = true∧tt∧tt∧tt∧True∧v64 (wordsB f n) = List.map (rnV (lift 68 71 [64,65,66,67]) 3) (v64 (wordsB f n)))∧True)∧(tt∧n ≤ n)∧True)∧tt)∧tt)∧True∧(rr (Value.agg ⟨[.int .u32 (↑c),.int .u8 (↑e),.int .u16 (↑b),.int .u16 (↑t),.int .u16 (↑p),.int .u16 (↑y),.int .u32 (↑r),.bool true]⟩)∧True)∧True∧True)∧tt)∧True∧(rr (Value.pointer (some ⟨66,0,none⟩))∧Value.int .i64 (IntKind.i64.wrap ((IntKind.i64.wrap (↑a)).tdiv (16:Int))) = Value.int .i64 (↑g)∧rr (Value.bool (soundN e b t p y r))∧True)∧((tt∧tt∧tt∧tt∧tt∧True∧[Value.int .i64 (↑m),.slice (some ⟨65,0,none⟩) n 9223372036854775873] = [Value.int .i64 (↑m),.slice (some ⟨65,0,none⟩) (wordsB (setB f g false) n).length 9223372036854775873])∧(tt∧(v64 (wordsB (setB f g false) n)).all (okV (fun l => l.blt 68) 3) = true∧tt∧tt∧tt∧True∧v64 (wordsB (setB f g false) n) = List.map (rnV (lift 68 71 [64,65,66,67]) 3) (v64 (wordsB (setB f g false) n)))∧True)∧(tt∧n ≤ n)∧True : St }):=by kernel_rfl
theorem tg_0 (g : Nat) (zs : List UInt8) (f : Nat → Bool) (N m n : Nat) : obs (evF Try.prog (baseC 3 (selGt m n f)) noLoop 100 40 21 [Value.pointer (some ⟨67,0,none⟩),.int .i64 (↑g)] ⟨68,arW false zs f N m n,arO N n,0,[(0,false),(1,false),(2,false),(3,false),(4,false),(5,false),(6,false),(7,false),(8,false),(9,false),(10,false),(11,false),(12,false),(13,false),(14,true),(15,false),(16,true),(17,false),(18,true),(19,false),(20,true),(21,false),(22,true),(23,false),(24,true),(25,false),(26,true),(27,false),(28,true),(29,false),(30,true),(31,false),(32,true),(33,false),(34,true),(35,false),(36,true),(37,false),(38,true),(39,false),(40,true),(41,false),(42,true),(43,false),(44,true),(45,false),(46,false)],0,True⟩) = some (Value.slice none 0 0,((((((((((((((((((((((((((((((((((((((((((((((((((((((((((((((True∧decide ((↑g:Int) < (0:Int)) = false)∧decide ((↑g:Int) < (0:Int)) = false)∧decide ((↑g:Int) < (0:Int)) = false)∧rr false)∧rr false)∧rr false)∧rr false)∧rr false)∧rr false)∧rr false)∧decide ((↑g:Int) < (0:Int)) = false)∧decide ((↑g:Int) < (0:Int)) = false)∧decide ((↑g:Int) < (0:Int)) = false)∧decide ((↑g:Int) ≥ IntKind.i64.wrap ((↑N:Int).tdiv (256:Int))) = false)∧tt)∧((0:Int) ≤ IntKind.i64.wrap (IntKind.i64.wrap ((IntKind.i64.wrap ((↑g:Int) * (256:Int))).tdiv (16:Int))+(0:Int))∧IntKind.i64.wrap (IntKind.i64.wrap ((IntKind.i64.wrap ((↑g:Int) * (256:Int))).tdiv (16:Int))+(0:Int)) < (↑m:Int))∧(rr (Value.pointer (some ⟨66,0,none⟩))∧rr (Value.int .i64 (IntKind.i64.wrap (IntKind.i64.wrap ((IntKind.i64.wrap ((↑g:Int) * (256:Int))).tdiv (16:Int))+(0:Int))))∧True)∧((tt∧tt∧tt∧tt∧tt∧True∧[Value.int .i64 (↑m),.slice (some ⟨65,0,none⟩) n 9223372036854775873] = [Value.int .i64 (↑m),.slice (some ⟨65,0,none⟩) (wordsB f n).length 9223372036854775873])∧(tt∧(v64 (wordsB f n)).all (okV (fun l => l.blt 68) 3) = true∧tt∧tt∧tt∧True∧v64 (wordsB f n) = List.map (rnV (lift 68 68 [64,65,66,67]) 3) (v64 (wordsB f n)))∧True)∧(tt∧n ≤ n)∧True)∧f (IntKind.i64.wrap (IntKind.i64.wrap ((IntKind.i64.wrap ((↑g:Int) * (256:Int))).tdiv (16:Int))+(0:Int))).toNat = false)∧tt)∧((0:Int) ≤ IntKind.i64.wrap (IntKind.i64.wrap ((IntKind.i64.wrap ((↑g:Int) * (256:Int))).tdiv (16:Int))+(1:Int))∧IntKind.i64.wrap (IntKind.i64.wrap ((IntKind.i64.wrap ((↑g:Int) * (256:Int))).tdiv (16:Int))+(1:Int)) < (↑m:Int))∧(rr (Value.pointer (some ⟨66,0,none⟩))∧rr (Value.int .i64 (IntKind.i64.wrap (IntKind.i64.wrap ((IntKind.i64.wrap ((↑g:Int) * (256:Int))).tdiv (16:Int))+(1:Int))))∧True)∧((tt∧tt∧tt∧tt∧tt∧True∧[Value.int .i64 (↑m),.slice (some ⟨65,0,none⟩) n 9223372036854775873] = [Value.int .i64 (↑m),.slice (some ⟨65,0,none⟩) (wordsB f n).length 9223372036854775873])∧(tt∧(v64 (wordsB f n)).all (okV (fun l => l.blt 68) 3) = true∧tt∧tt∧tt∧True∧v64 (wordsB f n) = List.map (rnV (lift 68 68 [64,65,66,67]) 3) (v64 (wordsB f n)))∧True)∧(tt∧n ≤ n)∧True)∧f (IntKind.i64.wrap (IntKind.i64.wrap ((IntKind.i64.wrap ((↑g:Int) * (256:Int))).tdiv (16:Int))+(1:Int))).toNat = false)∧tt)∧((0:Int) ≤ IntKind.i64.wrap (IntKind.i64.wrap ((IntKind.i64.wrap ((↑g:Int) * (256:Int))).tdiv (16:Int))+(2:Int))∧IntKind.i64.wrap (IntKind.i64.wrap ((IntKind.i64.wrap ((↑g:Int) * (256:Int))).tdiv (16:Int))+(2:Int)) < (↑m:Int))∧(rr (Value.pointer (some ⟨66,0,none⟩))∧rr (Value.int .i64 (IntKind.i64.wrap (IntKind.i64.wrap ((IntKind.i64.wrap ((↑g:Int) * (256:Int))).tdiv (16:Int))+(2:Int))))∧True)∧((tt∧tt∧tt∧tt∧tt∧True∧[Value.int .i64 (↑m),.slice (some ⟨65,0,none⟩) n 9223372036854775873] = [Value.int .i64 (↑m),.slice (some ⟨65,0,none⟩) (wordsB f n).length 9223372036854775873])∧(tt∧(v64 (wordsB f n)).all (okV (fun l => l.blt 68) 3) = true∧tt∧tt∧tt∧True∧v64 (wordsB f n) = List.map (rnV (lift 68 68 [64,65,66,67]) 3) (v64 (wordsB f n)))∧True)∧(tt∧n ≤ n)∧True)∧f (IntKind.i64.wrap (IntKind.i64.wrap ((IntKind.i64.wrap ((↑g:Int) * (256:Int))).tdiv (16:Int))+(2:Int))).toNat = false)∧tt)∧((0:Int) ≤ IntKind.i64.wrap (IntKind.i64.wrap ((IntKind.i64.wrap ((↑g:Int) * (256:Int))).tdiv (16:Int))+(3:Int))∧IntKind.i64.wrap (IntKind.i64.wrap ((IntKind.i64.wrap ((↑g:Int) * (256:Int))).tdiv (16:Int))+(3:Int)) < (↑m:Int))∧(rr (Value.pointer (some ⟨66,0,none⟩))∧rr (Value.int .i64 (IntKind.i64.wrap (IntKind.i64.wrap ((IntKind.i64.wrap ((↑g:Int) * (256:Int))).tdiv (16:Int))+(3:Int))))∧True)∧((tt∧tt∧tt∧tt∧tt∧True∧[Value.int .i64 (↑m),.slice (some ⟨65,0,none⟩) n 9223372036854775873] = [Value.int .i64 (↑m),.slice (some ⟨65,0,none⟩) (wordsB f n).length 9223372036854775873])∧(tt∧(v64 (wordsB f n)).all (okV (fun l => l.blt 68) 3) = true∧tt∧tt∧tt∧True∧v64 (wordsB f n) = List.map (rnV (lift 68 68 [64,65,66,67]) 3) (v64 (wordsB f n)))∧True)∧(tt∧n ≤ n)∧True)∧f (IntKind.i64.wrap (IntKind.i64.wrap ((IntKind.i64.wrap ((↑g:Int) * (256:Int))).tdiv (16:Int))+(3:Int))).toNat = false)∧tt)∧((0:Int) ≤ IntKind.i64.wrap (IntKind.i64.wrap ((IntKind.i64.wrap ((↑g:Int) * (256:Int))).tdiv (16:Int))+(4:Int))∧IntKind.i64.wrap (IntKind.i64.wrap ((IntKind.i64.wrap ((↑g:Int) * (256:Int))).tdiv (16:Int))+(4:Int)) < (↑m:Int))∧(rr (Value.pointer (some ⟨66,0,none⟩))∧rr (Value.int .i64 (IntKind.i64.wrap (IntKind.i64.wrap ((IntKind.i64.wrap ((↑g:Int) * (256:Int))).tdiv (16:Int))+(4:Int))))∧True)∧((tt∧tt∧tt∧tt∧tt∧True∧[Value.int .i64 (↑m),.slice (some ⟨65,0,none⟩) n 9223372036854775873] = [Value.int .i64 (↑m),.slice (some ⟨65,0,none⟩) (wordsB f n).length 9223372036854775873])∧(tt∧(v64 (wordsB f n)).all (okV (fun l => l.blt 68) 3) = true∧tt∧tt∧tt∧True∧v64 (wordsB f n) = List.map (rnV (lift 68 68 [64,65,66,67]) 3) (v64 (wordsB f n)))∧True)∧(tt∧n ≤ n)∧True)∧f (IntKind.i64.wrap (IntKind.i64.wrap ((IntKind.i64.wrap ((↑g:Int) * (256:Int))).tdiv (16:Int))+(4:Int))).toNat = false)∧tt)∧((0:Int) ≤ IntKind.i64.wrap (IntKind.i64.wrap ((IntKind.i64.wrap ((↑g:Int) * (256:Int))).tdiv (16:Int))+(5:Int))∧IntKind.i64.wrap (IntKind.i64.wrap ((IntKind.i64.wrap ((↑g:Int) * (256:Int))).tdiv (16:Int))+(5:Int)) < (↑m:Int))∧(rr (Value.pointer (some ⟨66,0,none⟩))∧rr (Value.int .i64 (IntKind.i64.wrap (IntKind.i64.wrap ((IntKind.i64.wrap ((↑g:Int) * (256:Int))).tdiv (16:Int))+(5:Int))))∧True)∧((tt∧tt∧tt∧tt∧tt∧True∧[Value.int .i64 (↑m),.slice (some ⟨65,0,none⟩) n 9223372036854775873] = [Value.int .i64 (↑m),.slice (some ⟨65,0,none⟩) (wordsB f n).length 9223372036854775873])∧(tt∧(v64 (wordsB f n)).all (okV (fun l => l.blt 68) 3) = true∧tt∧tt∧tt∧True∧v64 (wordsB f n) = List.map (rnV (lift 68 68 [64,65,66,67]) 3) (v64 (wordsB f n)))∧True)∧(tt∧n ≤ n)∧True)∧f (IntKind.i64.wrap (IntKind.i64.wrap ((IntKind.i64.wrap ((↑g:Int) * (256:Int))).tdiv (16:Int))+(5:Int))).toNat = false)∧tt)∧((0:Int) ≤ IntKind.i64.wrap (IntKind.i64.wrap ((IntKind.i64.wrap ((↑g:Int) * (256:Int))).tdiv (16:Int))+(6:Int))∧IntKind.i64.wrap (IntKind.i64.wrap ((IntKind.i64.wrap ((↑g:Int) * (256:Int))).tdiv (16:Int))+(6:Int)) < (↑m:Int))∧(rr (Value.pointer (some ⟨66,0,none⟩))∧rr (Value.int .i64 (IntKind.i64.wrap (IntKind.i64.wrap ((IntKind.i64.wrap ((↑g:Int) * (256:Int))).tdiv (16:Int))+(6:Int))))∧True)∧((tt∧tt∧tt∧tt∧tt∧True∧[Value.int .i64 (↑m),.slice (some ⟨65,0,none⟩) n 9223372036854775873] = [Value.int .i64 (↑m),.slice (some ⟨65,0,none⟩) (wordsB f n).length 9223372036854775873])∧(tt∧(v64 (wordsB f n)).all (okV (fun l => l.blt 68) 3) = true∧tt∧tt∧tt∧True∧v64 (wordsB f n) = List.map (rnV (lift 68 68 [64,65,66,67]) 3) (v64 (wordsB f n)))∧True)∧(tt∧n ≤ n)∧True)∧f (IntKind.i64.wrap (IntKind.i64.wrap ((IntKind.i64.wrap ((↑g:Int) * (256:Int))).tdiv (16:Int))+(6:Int))).toNat = false)∧tt)∧((0:Int) ≤ IntKind.i64.wrap (IntKind.i64.wrap ((IntKind.i64.wrap ((↑g:Int) * (256:Int))).tdiv (16:Int))+(7:Int))∧IntKind.i64.wrap (IntKind.i64.wrap ((IntKind.i64.wrap ((↑g:Int) * (256:Int))).tdiv (16:Int))+(7:Int)) < (↑m:Int))∧(rr (Value.pointer (some ⟨66,0,none⟩))∧rr (Value.int .i64 (IntKind.i64.wrap (IntKind.i64.wrap ((IntKind.i64.wrap ((↑g:Int) * (256:Int))).tdiv (16:Int))+(7:Int))))∧True)∧((tt∧tt∧tt∧tt∧tt∧True∧[Value.int .i64 (↑m),.slice (some ⟨65,0,none⟩) n 9223372036854775873] = [Value.int .i64 (↑m),.slice (some ⟨65,0,none⟩) (wordsB f n).length 9223372036854775873])∧(tt∧(v64 (wordsB f n)).all (okV (fun l => l.blt 68) 3) = true∧tt∧tt∧tt∧True∧v64 (wordsB f n) = List.map (rnV (lift 68 68 [64,65,66,67]) 3) (v64 (wordsB f n)))∧True)∧(tt∧n ≤ n)∧True)∧f (IntKind.i64.wrap (IntKind.i64.wrap ((IntKind.i64.wrap ((↑g:Int) * (256:Int))).tdiv (16:Int))+(7:Int))).toNat = false)∧tt)∧((0:Int) ≤ IntKind.i64.wrap (IntKind.i64.wrap ((IntKind.i64.wrap ((↑g:Int) * (256:Int))).tdiv (16:Int))+(8:Int))∧IntKind.i64.wrap (IntKind.i64.wrap ((IntKind.i64.wrap ((↑g:Int) * (256:Int))).tdiv (16:Int))+(8:Int)) < (↑m:Int))∧(rr (Value.pointer (some ⟨66,0,none⟩))∧rr (Value.int .i64 (IntKind.i64.wrap (IntKind.i64.wrap ((IntKind.i64.wrap ((↑g:Int) * (256:Int))).tdiv (16:Int))+(8:Int))))∧True)∧((tt∧tt∧tt∧tt∧tt∧True∧[Value.int .i64 (↑m),.slice (some ⟨65,0,none⟩) n 9223372036854775873] = [Value.int .i64 (↑m),.slice (some ⟨65,0,none⟩) (wordsB f n).length 9223372036854775873])∧(tt∧(v64 (wordsB f n)).all (okV (fun l => l.blt 68) 3) = true∧tt∧tt∧tt∧True∧v64 (wordsB f n) = List.map (rnV (lift 68 68 [64,65,66,67]) 3) (v64 (wordsB f n)))∧True)∧(tt∧n ≤ n)∧True)∧f (IntKind.i64.wrap (IntKind.i64.wrap ((IntKind.i64.wrap ((↑g:Int) * (256:Int))).tdiv (16:Int))+(8:Int))).toNat = false)∧tt)∧((0:Int) ≤ IntKind.i64.wrap (IntKind.i64.wrap ((IntKind.i64.wrap ((↑g:Int) * (256:Int))).tdiv (16:Int))+(9:Int))∧IntKind.i64.wrap (IntKind.i64.wrap ((IntKind.i64.wrap ((↑g:Int) * (256:Int))).tdiv (16:Int))+(9:Int)) < (↑m:Int))∧(rr (Value.pointer (some ⟨66,0,none⟩))∧rr (Value.int .i64 (IntKind.i64.wrap (IntKind.i64.wrap ((IntKind.i64.wrap ((↑g:Int) * (256:Int))).tdiv (16:Int))+(9:Int))))∧True)∧((tt∧tt∧tt∧tt∧tt∧True∧[Value.int .i64 (↑m),.slice (some ⟨65,0,none⟩) n 9223372036854775873] = [Value.int .i64 (↑m),.slice (some ⟨65,0,none⟩) (wordsB f n).length 9223372036854775873])∧(tt∧(v64 (wordsB f n)).all (okV (fun l => l.blt 68) 3) = true∧tt∧tt∧tt∧True∧v64 (wordsB f n) = List.map (rnV (lift 68 68 [64,65,66,67]) 3) (v64 (wordsB f n)))∧True)∧(tt∧n ≤ n)∧True)∧f (IntKind.i64.wrap (IntKind.i64.wrap ((IntKind.i64.wrap ((↑g:Int) * (256:Int))).tdiv (16:Int))+(9:Int))).toNat = false)∧tt)∧((0:Int) ≤ IntKind.i64.wrap (IntKind.i64.wrap ((IntKind.i64.wrap ((↑g:Int) * (256:Int))).tdiv (16:Int))+(10:Int))∧IntKind.i64.wrap (IntKind.i64.wrap ((IntKind.i64.wrap ((↑g:Int) * (256:Int))).tdiv (16:Int))+(10:Int)) < (↑m:Int))∧(rr (Value.pointer (some ⟨66,0,none⟩))∧rr (Value.int .i64 (IntKind.i64.wrap (IntKind.i64.wrap ((IntKind.i64.wrap ((↑g:Int) * (256:Int))).tdiv (16:Int))+(10:Int))))∧True)∧((tt∧tt∧tt∧tt∧tt∧True∧[Value.int .i64 (↑m),.slice (some ⟨65,0,none⟩) n 9223372036854775873] = [Value.int .i64 (↑m),.slice (some ⟨65,0,none⟩) (wordsB f n).length 9223372036854775873])∧(tt∧(v64 (wordsB f n)).all (okV (fun l => l.blt 68) 3) = true∧tt∧tt∧tt∧True∧v64 (wordsB f n) = List.map (rnV (lift 68 68 [64,65,66,67]) 3) (v64 (wordsB f n)))∧True)∧(tt∧n ≤ n)∧True)∧f (IntKind.i64.wrap (IntKind.i64.wrap ((IntKind.i64.wrap ((↑g:Int) * (256:Int))).tdiv (16:Int))+(10:Int))).toNat = false)∧tt)∧((0:Int) ≤ IntKind.i64.wrap (IntKind.i64.wrap ((IntKind.i64.wrap ((↑g:Int) * (256:Int))).tdiv (16:Int))+(11:Int))∧IntKind.i64.wrap (IntKind.i64.wrap ((IntKind.i64.wrap ((↑g:Int) * (256:Int))).tdiv (16:Int))+(11:Int)) < (↑m:Int))∧(rr (Value.pointer (some ⟨66,0,none⟩))∧rr (Value.int .i64 (IntKind.i64.wrap (IntKind.i64.wrap ((IntKind.i64.wrap ((↑g:Int) * (256:Int))).tdiv (16:Int))+(11:Int))))∧True)∧((tt∧tt∧tt∧tt∧tt∧True∧[Value.int .i64 (↑m),.slice (some ⟨65,0,none⟩) n 9223372036854775873] = [Value.int .i64 (↑m),.slice (some ⟨65,0,none⟩) (wordsB f n).length 9223372036854775873])∧(tt∧(v64 (wordsB f n)).all (okV (fun l => l.blt 68) 3) = true∧tt∧tt∧tt∧True∧v64 (wordsB f n) = List.map (rnV (lift 68 68 [64,65,66,67]) 3) (v64 (wordsB f n)))∧True)∧(tt∧n ≤ n)∧True)∧f (IntKind.i64.wrap (IntKind.i64.wrap ((IntKind.i64.wrap ((↑g:Int) * (256:Int))).tdiv (16:Int))+(11:Int))).toNat = false)∧tt)∧((0:Int) ≤ IntKind.i64.wrap (IntKind.i64.wrap ((IntKind.i64.wrap ((↑g:Int) * (256:Int))).tdiv (16:Int))+(12:Int))∧IntKind.i64.wrap (IntKind.i64.wrap ((IntKind.i64.wrap ((↑g:Int) * (256:Int))).tdiv (16:Int))+(12:Int)) < (↑m:Int))∧(rr (Value.pointer (some ⟨66,0,none⟩))∧rr (Value.int .i64 (IntKind.i64.wrap (IntKind.i64.wrap ((IntKind.i64.wrap ((↑g:Int) * (256:Int))).tdiv (16:Int))+(12:Int))))∧True)∧((tt∧tt∧tt∧tt∧tt∧True∧[Value.int .i64 (↑m),.slice (some ⟨65,0,none⟩) n 9223372036854775873] = [Value.int .i64 (↑m),.slice (some ⟨65,0,none⟩) (wordsB f n).length 9223372036854775873])∧(tt∧(v64 (wordsB f n)).all (okV (fun l => l.blt 68) 3) = true∧tt∧tt∧tt∧True∧v64 (wordsB f n) = List.map (rnV (lift 68 68 [64,65,66,67]) 3) (v64 (wordsB f n)))∧True)∧(tt∧n ≤ n)∧True)∧f (IntKind.i64.wrap (IntKind.i64.wrap ((IntKind.i64.wrap ((↑g:Int) * (256:Int))).tdiv (16:Int))+(12:Int))).toNat = false)∧tt)∧((0:Int) ≤ IntKind.i64.wrap (IntKind.i64.wrap ((IntKind.i64.wrap ((↑g:Int) * (256:Int))).tdiv (16:Int))+(13:Int))∧IntKind.i64.wrap (IntKind.i64.wrap ((IntKind.i64.wrap ((↑g:Int) * (256:Int))).tdiv (16:Int))+(13:Int)) < (↑m:Int))∧(rr (Value.pointer (some ⟨66,0,none⟩))∧rr (Value.int .i64 (IntKind.i64.wrap (IntKind.i64.wrap ((IntKind.i64.wrap ((↑g:Int) * (256:Int))).tdiv (16:Int))+(13:Int))))∧True)∧((tt∧tt∧tt∧tt∧tt∧True∧[Value.int .i64 (↑m),.slice (some ⟨65,0,none⟩) n 9223372036854775873] = [Value.int .i64 (↑m),.slice (some ⟨65,0,none⟩) (wordsB f n).length 9223372036854775873])∧(tt∧(v64 (wordsB f n)).all (okV (fun l => l.blt 68) 3) = true∧tt∧tt∧tt∧True∧v64 (wordsB f n) = List.map (rnV (lift 68 68 [64,65,66,67]) 3) (v64 (wordsB f n)))∧True)∧(tt∧n ≤ n)∧True)∧f (IntKind.i64.wrap (IntKind.i64.wrap ((IntKind.i64.wrap ((↑g:Int) * (256:Int))).tdiv (16:Int))+(13:Int))).toNat = false)∧tt)∧((0:Int) ≤ IntKind.i64.wrap (IntKind.i64.wrap ((IntKind.i64.wrap ((↑g:Int) * (256:Int))).tdiv (16:Int))+(14:Int))∧IntKind.i64.wrap (IntKind.i64.wrap ((IntKind.i64.wrap ((↑g:Int) * (256:Int))).tdiv (16:Int))+(14:Int)) < (↑m:Int))∧(rr (Value.pointer (some ⟨66,0,none⟩))∧rr (Value.int .i64 (IntKind.i64.wrap (IntKind.i64.wrap ((IntKind.i64.wrap ((↑g:Int) * (256:Int))).tdiv (16:Int))+(14:Int))))∧True)∧((tt∧tt∧tt∧tt∧tt∧True∧[Value.int .i64 (↑m),.slice (some ⟨65,0,none⟩) n 9223372036854775873] = [Value.int .i64 (↑m),.slice (some ⟨65,0,none⟩) (wordsB f n).length 9223372036854775873])∧(tt∧(v64 (wordsB f n)).all (okV (fun l => l.blt 68) 3) = true∧tt∧tt∧tt∧True∧v64 (wordsB f n) = List.map (rnV (lift 68 68 [64,65,66,67]) 3) (v64 (wordsB f n)))∧True)∧(tt∧n ≤ n)∧True)∧f (IntKind.i64.wrap (IntKind.i64.wrap ((IntKind.i64.wrap ((↑g:Int) * (256:Int))).tdiv (16:Int))+(14:Int))).toNat = false)∧tt)∧((0:Int) ≤ IntKind.i64.wrap (IntKind.i64.wrap ((IntKind.i64.wrap ((↑g:Int) * (256:Int))).tdiv (16:Int))+(15:Int))∧IntKind.i64.wrap (IntKind.i64.wrap ((IntKind.i64.wrap ((↑g:Int) * (256:Int))).tdiv (16:Int))+(15:Int)) < (↑m:Int))∧(rr (Value.pointer (some ⟨66,0,none⟩))∧rr (Value.int .i64 (IntKind.i64.wrap (IntKind.i64.wrap ((IntKind.i64.wrap ((↑g:Int) * (256:Int))).tdiv (16:Int))+(15:Int))))∧True)∧((tt∧tt∧tt∧tt∧tt∧True∧[Value.int .i64 (↑m),.slice (some ⟨65,0,none⟩) n 9223372036854775873] = [Value.int .i64 (↑m),.slice (some ⟨65,0,none⟩) (wordsB f n).length 9223372036854775873])∧(tt∧(v64 (wordsB f n)).all (okV (fun l => l.blt 68) 3) = true∧tt∧tt∧tt∧True∧v64 (wordsB f n) = List.map (rnV (lift 68 68 [64,65,66,67]) 3) (v64 (wordsB f n)))∧True)∧(tt∧n ≤ n)∧True)∧f (IntKind.i64.wrap (IntKind.i64.wrap ((IntKind.i64.wrap ((↑g:Int) * (256:Int))).tdiv (16:Int))+(15:Int))).toNat = false)∧rr false):=by kernel_rfl
end Go.Proofs.Ytliidiceljdgmaa
namespace Go.Proofs.Ytliidiceljdgmaa
open Go.RowKit
open Sy
set_option maxRecDepth 100000
theorem arW_okH {q : Nat → Bool} (h : ∀ l,l < 68 → q l = true) (rw : Bool) (zs : List UInt8) (f : Nat → Bool) (N m n : Nat) : OkH q (arW rw zs f N m n) :=
 ⟨⟨h 67 (by omega),rfl,fun v hv => okV_bnd 3 v ((arL_cell h N m n).1 v hv)⟩,⟨h 66 (by omega),rfl,fun v hv => okV_bnd 3 v ((arL_cell h N m n).2 v hv)⟩,⟨h 65 (by omega),h 65 (by omega),flat_bnd (v64_flat _)⟩,⟨h 64 (by omega),h 64 (by omega),flat_bnd (u8s_flatA zs)⟩,trivial⟩
theorem arW_okV (rw : Bool) (zs : List UInt8) (f : Nat → Bool) (N m n : Nat) : ∀ x ∈ arW rw zs f N m n,∀ v ∈ x.2.cells,okV (fun l => Nat.blt l 68) 3 v = true:=fun x hx v hv => by
 simp only [rr, tt, arW,List.mem_cons,List.not_mem_nil,or_false] at hx
 rcases hx with rfl | rfl | rfl | rfl
 ·exact (arL_cell lt68 N m n).1 v hv
 ·exact (arL_cell lt68 N m n).2 v hv
 ·exact okV_flat0 (v64_flat _ v hv) 3
 ·exact okV_flat0 (u8s_flatA zs v hv) 3
theorem arW_flat (rw : Bool) (zs : List UInt8) (f : Nat → Bool) (N m n : Nat) : ∀ x ∈ arW rw zs f N m n,x.2.op ≠ none → ∀ v ∈ x.2.cells,flat0 v = true:=fun x hx hne => by
 simp only [rr, tt, arW,List.mem_cons,List.not_mem_nil,or_false] at hx
 rcases hx with rfl | rfl | rfl | rfl
 ·exact absurd rfl hne
 ·exact absurd rfl hne
 ·exact v64_flat _
 ·exact u8s_flatA zs
theorem arW_seen {s' : Sy.St} (zs : List UInt8) (f : Nat → Bool) (N m n : Nat) (cs ws : List Value) (h67 : Sy.look s'.h 67 = some ⟨true,none,[.pointer (some ⟨66,0,none⟩),.slice (some ⟨64,0,none⟩) N (big + 64)],none⟩) (h66 : Sy.look s'.h 66 = some ⟨true,none,[.int .i64 (m : Nat),.slice (some ⟨65,0,none⟩) n (big + 65)],none⟩)
  (h65 : Sy.look s'.h 65 = some ⟨true,some (65,1),ws,none⟩) (h64 : Sy.look s'.h 64 = some ⟨true,some (64,1),cs,none⟩) (hw : ws = v64 (wordsB f n)) (hc : cs = u8s zs) : SeenH 3 (fun l => Nat.blt l 68) id s'.h (arW true zs f N m n):=by
 refine ⟨⟨rfl,List.all_eq_true.2 (arL_cell lt68 N m n).1,rfl,?_⟩,⟨rfl,List.all_eq_true.2 (arL_cell lt68 N m n).2,rfl,?_⟩,⟨rfl,flat_all (v64_flat _),rfl,?_⟩,⟨rfl,flat_all (u8s_flatA zs),rfl,?_⟩,trivial⟩
 ·simp only [rr, tt, id,h67]; exact ⟨rfl,rfl,trivial,(map_id3 _ rfl _).symm⟩
 ·simp only [rr, tt, id,h66]; exact ⟨rfl,rfl,trivial,(map_id3 _ rfl _).symm⟩
 ·simp only [rr, tt, id,h65]; exact ⟨rfl,rfl,trivial,by rw [map_id3 _ rfl,hw]⟩
 ·simp only [rr, tt, id,h64]; exact ⟨rfl,rfl,trivial,by rw [map_id3 _ rfl,hc]⟩
def layWC (args : List Value) (zs zs' : List UInt8) (f f' : Nat → Bool) (N m n : Nat) : Con:=⟨args,68,arW true zs f N m n,arO N n,.bool true,68,arW true zs' f' N m n,arO N n⟩
theorem layW_wf {args : List Value} (ha : args.all (okV (fun l => Nat.blt l 68) 3) = true) (zs zs' : List UInt8) (f f' : Nat → Bool) (N m n : Nat) : (layWC args zs zs' f f' N m n).Wf 3 :=
 ⟨by show 64 ≤ 68; omega,Nat.le_refl _,arW_okH lt68 true zs f N m n,rfl,rfl,rfl,ha,rfl,arW_okV true _ _ N m n⟩
theorem layW_ends {args : List Value} {zs zs' : List UInt8} {f f' : Nat → Bool} {N m n : Nat} {s' : Sy.St} (h1 : SeenH 3 (fun l => Nat.blt l 68) id s'.h (arW true zs' f' N m n)) (h2 : SeenO (fun l => Nat.blt l 68) id s'.lo (arO N n)) : (layWC args zs zs' f f' N m n).Ends 3 (fun l => Nat.blt l 68) id (.bool true) s' :=
 ⟨fun _ _ => rfl,h1,rfl,h2,⟨rfl,rfl⟩,rfl,arW_okH keeps68 true _ _ N m n,rfl,bnd_flat0 _ rfl,fun x _ _ => .inl rfl⟩
theorem setB_setB (f : Nat → Bool) (g : Nat) (a b : Bool) : setB (setB f g a) g b = setB f g b:=by
 funext i; unfold setB; split <;> rfl
theorem clw_flat (g m n : Nat) (f : Nat → Bool) (v : Int) : FlatC (clwC g m n f v):=⟨fun x hx _ => by
 obtain rfl:=List.mem_singleton.1 hx
 exact v64_flat _⟩
theorem ptw_flat (g m n : Nat) (f : Nat → Bool) (b : Bool) : FlatC (ptwC g m n f b):=⟨fun x hx _ => by
 obtain rfl:=List.mem_singleton.1 hx
 exact v64_flat _⟩
def scC (a c e b t p y r : Nat) (zs : List UInt8) (f : Nat → Bool) (N m n : Nat) : Con:=layWC [.pointer (some ⟨67,0,none⟩),.int .u32 (a : Nat),cpV c e b t p y r true] zs (patA a (cbL c e b t p y r) zs) f (setB f (a / 16) true) N m n
theorem sc_con (a c e b t p y r : Nat) (zs : List UInt8) (f : Nat → Bool) (N m n : Nat) (h : ArOk zs N m n) (hcp : CpB c e b t p y r) (hs : soundN e b t p y r = true) (ha : a % 16 = 0) (ha2 : a + 16 ≤ N) : ConOk Try.prog 39 3 (scC a c e b t p y r zs f N m n) ∧ FlatC (scC a c e b t p y r zs f N m n):=by
 obtain ⟨hl,h1,h2,h3,h4⟩:=h
 have hg : a / 16 < m:=by omega
 obtain ⟨cv,hcv⟩:=clw_con (a / 16) m n f hg h2 h3
 have hr:=sc_t a (a / 16) c e b t p y r zs f cv N m n
 have e16:=cbL_len c e b t p y r
 simp only [rr, tt, lenT_eq,u8s_fold,List.drop_zero,e16] at hr
 have et : (a : Int).tmod (16 : Int) = ((a % 16 : Nat) : Int):=(Int.ofNat_tmod a 16).symm
 have ht : List.take 16 (u8s (cbL c e b t p y r)) = u8s (cbL c e b t p y r):=List.take_of_length_le (by rw [u8s_lenA,e16]; exact Nat.le_refl _)
 have hv1 : ∀ (f : Nat → Bool) (σ : Nat → Nat),(v64 (wordsB f n)).map (rnV σ 3) = v64 (wordsB f n):=fun f σ => flat_map (v64_flat _)
 have hv2 : ∀ (f : Nat → Bool) (p : Nat → Bool),(v64 (wordsB f n)).all (okV p 3) = true:=fun f p => flat_all (v64_flat _)
 simp (disch:=omega) only [rr, tt, w64A,a_tdiv,et,ha,a_add1,a_sub1,a_sub,a_min,Int.toNat_natCast,Nat.zero_add,Nat.mul_one,ht,hv1,hs,setB_setB] at hr
 refine ⟨conOk_run (run_ok (L:=100) ar_names (baseF_ok (selSteps_ok fun x hx => ?_) (noBase_ok _)) (noLoop_ok _) 40) (layW_wf rfl zs _ f _ N m n) hr ?_ (p:=fun l => Nat.blt l 68) (σ:=id) (layW_ends (arW_seen _ _ N m n _ _ rfl rfl rfl rfl rfl (setAt_A _ _ _ _ rfl (by rw [e16]; omega))) ⟨⟨rfl,Nat.le_refl _⟩,⟨rfl,Nat.le_refl _⟩,trivial⟩),⟨arW_flat _ _ _ _ _ _⟩⟩
 ·simp only [rr, tt, scL,List.mem_cons,List.not_mem_nil,or_false] at hx
  rcases hx with rfl | rfl | rfl | rfl
  ·exact ⟨cby_con c e b t p y r true hcp,⟨fun x hx => by cases hx⟩⟩
  ·exact ⟨hcv,clw_flat _ _ _ _ _⟩
  ·exact ⟨snd_con c e b t p y r true hcp,⟨fun x hx => by cases hx⟩⟩
  ·exact ⟨ptw_con (a / 16) m n _ true hg h2 h3,ptw_flat _ _ _ _ _⟩
 ·simp only [rr, tt, u8s_hasA,hl,hv1,hv2,u8s_lenA,u8s_oneC,u8s_all0,lenT_eq,e16,wordsB_len,ht]
  simp (disch:=omega) only [rr, tt, a_beq,a_blt]
  simp (disch:=omega) only [rr, tt, decide_eq_true,decide_eq_false,Bool.and_self,Bool.true_and,Bool.and_true,Bool.not_true,Bool.not_false,cond_true,and_true,true_and,and_self]
  have q1 : IntKind.i64.wrap ((N : Int) - (16 : Int)) = ((N - 16 : Nat) : Int):=by rw [show (N : Int) - (16 : Int) = ((N - 16 : Nat) : Int) by omega,w64A _ (by omega)]
  have q2 : IntKind.i64.wrap ((a : Int) + ((16 : Nat) : Int)) = ((a + 16 : Nat) : Int):=by rw [a_add,w64A _ (by omega)]
  have q3 : IntKind.i64.wrap (((a + 16 : Nat) : Int) - (1 : Int)) = ((a + 15 : Nat) : Int):=by rw [show ((a + 16 : Nat) : Int) - (1 : Int) = ((a + 15 : Nat) : Int) by omega,w64A _ (by omega)]
  have q4 : IntKind.i64.wrap (IntKind.i64.wrap (((a + 15 : Nat) : Int).tdiv 16) + 1) = ((a / 16 + 1 : Nat) : Int):=by
   rw [a_tdiv,w64A _ (by omega),a_add1,w64A _ (by omega)]
   omega
  rw [q1,q2,q3,q4]
  refine ⟨⟨⟨by simp,?_⟩,rfl,Nat.le_refl _⟩,Nat.le_refl _⟩
  rw [Bool.not_eq_false',decide_eq_true_eq]; omega
def rdWC (args : List Value) (v : Value) (zs : List UInt8) (f : Nat → Bool) (N m n : Nat) : Con:=⟨args,68,arW false zs f N m n,arO N n,v,68,[],[]⟩
theorem rdW_run {call : CallK} (hc : SoundCall Try.prog call) {fn : FuncId} {args : List Value} {v : Value} {zs : List UInt8} {f : Nat → Bool} {N m n : Nat} {T : List (Nat × Bool)} {q : Prop} (ha : args.all (okV (fun l => Nat.blt l 68) 3) = true) (hv : flat2 v = true) (hu : isU v = false) (h : obs (call fn args ⟨68,arW false zs f N m n,arO N n,0,T,0,True⟩) = some (v,q)) (hq : q) :
  ConOk Try.prog fn 3 (rdWC args v zs f N m n) ∧ FlatC (rdWC args v zs f N m n):=by
 unfold obs at h
 obtain ⟨⟨v',s'⟩,h1,h2⟩:=oM h
 simp only [rr, tt, Prod.mk.injEq] at h2
 obtain ⟨rfl,rfl⟩:=h2
 refine ⟨conOk_run hc ⟨by show 64 ≤ 68; omega,Nat.le_refl _,arW_okH lt68 false zs f N m n,rfl,rfl,rfl,ha,okV_flat2 hv 1,fun x hx => by cases hx⟩ h1 hq (p:=fun l => Nat.blt l 68) (σ:=id) ?_,⟨fun x hx => by cases hx⟩⟩
 exact ⟨fun _ _ => rfl,trivial,rfl,trivial,⟨okV_flat2 hv 1,by rw [rnV_id]; rfl⟩,hu,trivial,rfl,bnd_flat2 _ hv,fun x hx => by cases hx⟩
theorem selGt_ok (m n : Nat) (f : Nat → Bool) (h2 : m ≤ 64 * n) (h3 : n ≤ 100000) : SelOk Try.prog 3 (selGt m n f):=by
 intro fn args s c ρ q h hq
 unfold selGt at h
 obtain ⟨h4,h5⟩:=bif_some h
 have h4:=eB h4
 subst h4
 split at h5
 ·rename_i x
  cases h5
  obtain ⟨g,rfl⟩:=Int.eq_ofNat_of_zero_le hq.1
  exact gtw_con g m n f (by omega) h2 h3
 ·cases h5
def tg0C (g : Nat) (zs : List UInt8) (f : Nat → Bool) (N m n : Nat) : Con:=rdWC [.pointer (some ⟨67,0,none⟩),.int .i64 (g : Nat)] (.slice none 0 0) zs f N m n
theorem tg0_con (g : Nat) (zs : List UInt8) (f : Nat → Bool) (N m n : Nat) (h : ArOk zs N m n) (hg : (g + 1) * 256 ≤ N) (hf : ∀ i,i < 16 → f (16 * g + i) = false) : ConOk Try.prog 21 3 (tg0C g zs f N m n) ∧ FlatC (tg0C g zs f N m n):=by
 obtain ⟨hl,h1,h2,h3,h4⟩:=h
 have hr:=tg_0 g zs f N m n
 have e1 : ∀ k : Nat,k < 16 → IntKind.i64.wrap (IntKind.i64.wrap ((IntKind.i64.wrap ((g : Int) * (256 : Int))).tdiv (16 : Int)) + (k : Int)) = ((16 * g + k : Nat) : Int):=fun k hk => by
  rw [show (g : Int) * (256 : Int) = ((g * 256 : Nat) : Int) by omega,w64A _ (by omega),a_tdiv,w64A _ (by omega),a_add,w64A _ (by omega)]
  omega
 have e2 : IntKind.i64.wrap ((N : Int).tdiv (256 : Int)) = ((N / 256 : Nat) : Int):=by rw [show (N : Int).tdiv (256 : Int) = ((N / 256 : Nat) : Int) from (Int.ofNat_tdiv N 256).symm,w64A _ (by omega)]
 have hv1 : ∀ (σ : Nat → Nat),(v64 (wordsB f n)).map (rnV σ 3) = v64 (wordsB f n):=fun σ => flat_map (v64_flat _)
 have hv2 : ∀ (p : Nat → Bool),(v64 (wordsB f n)).all (okV p 3) = true:=fun p => flat_all (v64_flat _)
 refine rdW_run (run_ok (L:=100) ar_names (baseC_ok (selGt_ok m n f h2 h3)) (noLoop_ok _) 40) rfl rfl rfl hr ?_
 have t0 : IntKind.i64.wrap (IntKind.i64.wrap ((IntKind.i64.wrap ((g : Int) * (256 : Int))).tdiv (16 : Int)) + (0 : Int)) = ((16 * g + 0 : Nat) : Int):=e1 0 (by omega)
 have t1 : IntKind.i64.wrap (IntKind.i64.wrap ((IntKind.i64.wrap ((g : Int) * (256 : Int))).tdiv (16 : Int)) + (1 : Int)) = ((16 * g + 1 : Nat) : Int):=e1 1 (by omega)
 have t2 : IntKind.i64.wrap (IntKind.i64.wrap ((IntKind.i64.wrap ((g : Int) * (256 : Int))).tdiv (16 : Int)) + (2 : Int)) = ((16 * g + 2 : Nat) : Int):=e1 2 (by omega)
 have t3 : IntKind.i64.wrap (IntKind.i64.wrap ((IntKind.i64.wrap ((g : Int) * (256 : Int))).tdiv (16 : Int)) + (3 : Int)) = ((16 * g + 3 : Nat) : Int):=e1 3 (by omega)
 have t4 : IntKind.i64.wrap (IntKind.i64.wrap ((IntKind.i64.wrap ((g : Int) * (256 : Int))).tdiv (16 : Int)) + (4 : Int)) = ((16 * g + 4 : Nat) : Int):=e1 4 (by omega)
 have t5 : IntKind.i64.wrap (IntKind.i64.wrap ((IntKind.i64.wrap ((g : Int) * (256 : Int))).tdiv (16 : Int)) + (5 : Int)) = ((16 * g + 5 : Nat) : Int):=e1 5 (by omega)
 have t6 : IntKind.i64.wrap (IntKind.i64.wrap ((IntKind.i64.wrap ((g : Int) * (256 : Int))).tdiv (16 : Int)) + (6 : Int)) = ((16 * g + 6 : Nat) : Int):=e1 6 (by omega)
 have t7 : IntKind.i64.wrap (IntKind.i64.wrap ((IntKind.i64.wrap ((g : Int) * (256 : Int))).tdiv (16 : Int)) + (7 : Int)) = ((16 * g + 7 : Nat) : Int):=e1 7 (by omega)
 have t8 : IntKind.i64.wrap (IntKind.i64.wrap ((IntKind.i64.wrap ((g : Int) * (256 : Int))).tdiv (16 : Int)) + (8 : Int)) = ((16 * g + 8 : Nat) : Int):=e1 8 (by omega)
 have t9 : IntKind.i64.wrap (IntKind.i64.wrap ((IntKind.i64.wrap ((g : Int) * (256 : Int))).tdiv (16 : Int)) + (9 : Int)) = ((16 * g + 9 : Nat) : Int):=e1 9 (by omega)
 have t10 : IntKind.i64.wrap (IntKind.i64.wrap ((IntKind.i64.wrap ((g : Int) * (256 : Int))).tdiv (16 : Int)) + (10 : Int)) = ((16 * g + 10 : Nat) : Int):=e1 10 (by omega)
 have t11 : IntKind.i64.wrap (IntKind.i64.wrap ((IntKind.i64.wrap ((g : Int) * (256 : Int))).tdiv (16 : Int)) + (11 : Int)) = ((16 * g + 11 : Nat) : Int):=e1 11 (by omega)
 have t12 : IntKind.i64.wrap (IntKind.i64.wrap ((IntKind.i64.wrap ((g : Int) * (256 : Int))).tdiv (16 : Int)) + (12 : Int)) = ((16 * g + 12 : Nat) : Int):=e1 12 (by omega)
 have t13 : IntKind.i64.wrap (IntKind.i64.wrap ((IntKind.i64.wrap ((g : Int) * (256 : Int))).tdiv (16 : Int)) + (13 : Int)) = ((16 * g + 13 : Nat) : Int):=e1 13 (by omega)
 have t14 : IntKind.i64.wrap (IntKind.i64.wrap ((IntKind.i64.wrap ((g : Int) * (256 : Int))).tdiv (16 : Int)) + (14 : Int)) = ((16 * g + 14 : Nat) : Int):=e1 14 (by omega)
 have t15 : IntKind.i64.wrap (IntKind.i64.wrap ((IntKind.i64.wrap ((g : Int) * (256 : Int))).tdiv (16 : Int)) + (15 : Int)) = ((16 * g + 15 : Nat) : Int):=e1 15 (by omega)
 simp only [rr, tt, t0,t1,t2,t3,t4,t5,t6,t7,t8,t9,t10,t11,t12,t13,t14,t15,e2,hv1,hv2,wordsB_len,Int.toNat_natCast,and_true,true_and,and_self,Nat.le_refl]
 have b1 : ∀ k : Nat,k < 16 → (0 : Int) ≤ ((16 * g + k : Nat) : Int) ∧ ((16 * g + k : Nat) : Int) < (m : Int):=fun k hk => by omega
 simp only [rr, tt, hf,b1,Nat.lt_irrefl,Nat.reduceLT,and_true,true_and,and_self]
 exact ⟨decide_eq_false (by omega),decide_eq_false (by omega)⟩
end Go.Proofs.Ytliidiceljdgmaa
namespace Go.Proofs.Ytliidiceljdgmaa
open Go.RowKit
open Sy
set_option maxRecDepth 100000
def selMk : SelC:=fun f args _ => bif Nat.beq f 77 then
 match args with
 | [.agg ⟨[.int .u32 a,.int .u32 s]⟩,.int .u16 p] => some (makeZ a s p,[],makeHyp a s p)
 | _ => none
 else bif Nat.beq f 65 then
 match args with
 | [.agg ⟨[.int .u32 c,.int .u8 e,.int .u16 b,.int .u16 t,.int .u16 p,.int .u16 y,.int .u32 r,.bool v]⟩,.int .u32 to] => some (addrZ c e b t p y r v to,[],addrHyp c e b t p y r to)
 | _ => none
 else none
theorem selMk_ok : SelOk Try.prog 3 selMk:=by
 intro f args s c ρ q h hq
 unfold selMk at h
 cases h1 : Nat.beq f 77 <;> rw [h1] at h
 ·simp only [rr, tt, cond_false] at h
  obtain ⟨h2,h3⟩:=bif_some h
  have h2:=eB h2
  subst h2
  split at h3
  ·cases h3; exact addr_con _ _ _ _ _ _ _ _ _ hq
  ·cases h3
 ·have h2:=eB h1
  subst h2
  simp only [rr, tt, cond_true] at h
  split at h
  ·cases h; exact make_con _ _ _ hq
  ·cases h
def soH (so : List Nat) : Sy.Heap:=[(66,⟨false,some (0,0),u32s so,none⟩)]
end Go.Proofs.Ytliidiceljdgmaa
