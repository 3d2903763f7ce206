/-
  Chapter 21, words of the loops' frames.
-/
import Derived.Test.YtdljpnebpoaeiaaSy3
import Derived.Test.YtdljpnebpoaeiaaRows
namespace Go.Proofs.Ytdljpnebpoaeiaa
open Go.RowKit Sy

def idxI (bs : List Bool) (v : Bool) (cap k : Nat) : Sf := ⟨65, [(0, .slice (some ⟨64, 0, none⟩) bs.length cap), (1, .bool v), (7, .int .i64 (bs.length : Nat)), (8, .int .i64 (k : Nat))], [(64, ⟨false, none, bools bs, none⟩)], []⟩
structure Rl where
  at_ : Nat
  code : Bool
  off : Nat
  size : Nat
  perms : Nat
  typ : Nat
def relC (x : Rl) : List Value := [.int .u32 (x.at_ : Int), .bool x.code, .int .u32 (x.off : Int), .int .u32 (x.size : Int), .int .u16 (x.perms : Int), .int .u16 (x.typ : Int)]
def rels (xs : List Rl) : List Value := xs.flatMap relC
def imgV (pages stack types : Int) (nc nr ns : Nat) (data : List UInt8) : Value :=
  .agg ⟨[.int .i64 pages, .int .i64 stack, .int .i64 types, .slice (some ⟨64, 0, none⟩) nc (big + 64), .string ⟨⟨data⟩⟩, .slice (some ⟨65, 0, none⟩) nr (big + 65), .slice (some ⟨66, 0, none⟩) ns (big + 66)]⟩
def layS (rs : List Rl) (starts : List Nat) (T : List (Nat × Bool)) : St := ⟨67, [(65, ⟨false, some (0, 0), rels rs, none⟩), (66, ⟨false, some (0, 0), u32s starts, none⟩)], [], 0, T, 0, True⟩
def imgL (pages stack types : Int) (nc nr ns : Nat) (data : List UInt8) : List Value :=
  [.int .i64 pages, .int .i64 stack, .int .i64 types, .slice (some ⟨64, 0, none⟩) nc (big + 64), .string ⟨⟨data⟩⟩, .slice (some ⟨65, 0, none⟩) nr (big + 65), .slice (some ⟨66, 0, none⟩) ns (big + 66)]
def stI (pages stack types : Int) (nc nr : Nat) (data : List UInt8) (starts : List Nat) (k : Nat) : Sf :=
  ⟨71, [(0, .slice (some ⟨66, 0, none⟩) starts.length (big + 66)), (1, .func (.func 25) ⟨[]⟩ ⟨[.pointer (some ⟨67, 0, none⟩)]⟩), (7, .int .i64 (starts.length : Nat)), (8, .int .i64 (k : Nat))],
    [(66, ⟨false, some (0, 0), u32s starts, none⟩), (67, ⟨false, none, imgL pages stack types nc nr starts.length data, none⟩)], []⟩
def stF (j : Nat) : Sf := ⟨71, [(4, .int .i64 (j : Nat))], [], []⟩
def stN : Sf := ⟨71, [], [], []⟩
end Go.Proofs.Ytdljpnebpoaeiaa
