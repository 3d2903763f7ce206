/-
  Chapter 21: is nothing of this so?
-/
import Derived.Test.YtdljpnebpoaeiaaImgA
namespace Go.Proofs.Ytdljpnebpoaeiaa
open Go.RowKit
open Sy

def idxEntF (bs : List Bool) (v : Bool) (cap j : Nat) (hc : Nat.blt cap big = true) (hl : bs.length < 9000000000000000000) (hj : j < bs.length) (hv : bs.getD j false = v) (hn : ∀ i, i < j → bs.getD i false ≠ v) : Ent Try.prog :=
  entC Try.prog 64 0 19 (idxI bs v cap 0) .ret (idxF j) (by kernel_rfl) (by kernel_rfl) (idx_found bs v cap j hc hl hj hv hn ⟨0, Nat.zero_le _⟩)
def idxEntN (bs : List Bool) (v : Bool) (cap : Nat) (hc : Nat.blt cap big = true) (hl : bs.length < 9000000000000000000) (hn : ∀ i, i < bs.length → bs.getD i false ≠ v) : Ent Try.prog :=
  entC Try.prog 64 0 19 (idxI bs v cap 0) (.exit 0) idxN (by kernel_rfl) (by kernel_rfl) (idx_none bs v cap hc hl hn ⟨0, Nat.zero_le _⟩)
def noneC (bs : List Bool) (cap : Nat) : Con := ⟨[.slice (some ⟨64, 0, none⟩) bs.length cap], 65, [(64, ⟨false, none, bools bs, none⟩)], [], .bool (!bs.any id), 65, [], []⟩
def noneK (bs : List Bool) (cap : Nat) (T : List (Nat × Bool)) : St := { (noneC bs cap).s0 with T := T }
end Go.Proofs.Ytdljpnebpoaeiaa
