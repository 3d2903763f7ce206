/-
  Chapter 21: layouts and relocations as a base.
-/
import Derived.Test.YtdljpnebpoaeiaaImgM
namespace Go.Proofs.Ytdljpnebpoaeiaa
open Go.RowKit
open Sy

def relsOf : List Value → List Rl
  | a :: b :: c :: d :: e :: f :: l => ⟨(intOf' a).toNat, boolOf' b, (intOf' c).toNat, (intOf' d).toNat, (intOf' e).toNat, (intOf' f).toNat⟩ :: relsOf l
  | _ => []
theorem relsOf_rels : ∀ rs : List Rl, relsOf (rels rs) = rs
  | [] => rfl
  | x :: rs => by
    rw [rels_cons]
    show _ :: relsOf (rels rs) = _
    rw [relsOf_rels rs]
    rfl
def selRight : SelC := fun f args _ =>
  match args with
  | [.agg ⟨[.int _ pages, .int _ stack, .int _ types, .slice (some i) nc _, .string ⟨⟨data⟩⟩, .slice (some j) nr _, .slice (some k) ns _]⟩, .agg ⟨[.int _ a, .int _ b, .int _ c, .int _ d, .int _ e, .int _ g, .int _ h, .int _ m]⟩, .agg ⟨[.int _ x, .bool code, .int _ off, .int _ size, .int _ perms, .int _ typ]⟩, .int _ behind] =>
    bif Nat.beq f 27 then some (rightC pages stack types nc nr ns data a.toNat b c.toNat d e g h m ⟨x.toNat, code, off.toNat, size.toNat, perms.toNat, typ.toNat⟩ behind.toNat, [i.block, j.block, k.block], rightOk nc data.length a.toNat c.toNat ⟨x.toNat, code, off.toNat, size.toNat, perms.toNat, typ.toNat⟩) else none
  | _ => none
theorem selRight_ok : SelOk Try.prog 3 selRight := by
  intro f args s c ρ q h hq
  unfold selRight at h
  split at h
  · obtain ⟨h2, h⟩ := bif_some h
    have h2 := Nat.eq_of_beq_eq_true h2
    subst h2
    cases h
    exact right_prog _ _ _ _ _ _ _ _ _ _ _ _ _ _ _ _ _ hq
  · cases h
theorem reloc_ref (pages stack types : Int) (nc ns : Nat) (data : List UInt8) (a : Nat) (b : Int) (c : Nat) (d e f g h : Int) (rs : List Rl) (k : Nat) (hq : relocOk nc data.length a c rs k) : ConOk Try.prog 30 3 (relocC pages stack types nc ns data a b c d e f g h rs k) := by
  cases k with
  | zero => exact reloc_0 pages stack types nc ns data a b c d e f g h rs hq
  | succ k => exact reloc_1 pages stack types nc ns data a b c d e f g h rs k hq
def selReloc : SelC := fun f args s =>
  match args with
  | [.agg ⟨[.int _ pages, .int _ stack, .int _ types, .slice (some i) nc _, .string ⟨⟨data⟩⟩, .slice (some j) _ _, .slice (some k) ns _]⟩, .agg ⟨[.int _ a, .int _ b, .int _ c, .int _ d, .int _ e, .int _ g, .int _ h, .int _ m]⟩, .int _ x] =>
    bif Nat.beq f 30 then (Sy.look s.h j.block).map fun bk => (relocC pages stack types nc ns data a.toNat b c.toNat d e g h m (relsOf bk.cells) x.toNat, [i.block, j.block, k.block], relocOk nc data.length a.toNat c.toNat (relsOf bk.cells) x.toNat) else none
  | _ => none
theorem selReloc_ok : SelOk Try.prog 3 selReloc := by
  intro f args s c ρ q h hq
  unfold selReloc at h
  split at h
  · obtain ⟨h2, h⟩ := bif_some h
    have h2 := Nat.eq_of_beq_eq_true h2
    subst h2
    obtain ⟨bk, _, h⟩ := Option.map_eq_some_iff.1 h
    cases h
    exact reloc_ref _ _ _ _ _ _ _ _ _ _ _ _ _ _ _ _ hq
  · cases h
def selL : SelC := selOr selRight (selOr selReloc selK)
theorem selL_ok : SelOk Try.prog 3 selL := selOr_ok selRight_ok (selOr_ok selReloc_ok selK_ok)
end Go.Proofs.Ytdljpnebpoaeiaa
