/-
  Chapter 21: is nothing of this so? The contract.
-/
import Derived.Test.YtdljpnebpoaeiaaImgB
namespace Go.Proofs.Ytdljpnebpoaeiaa
open Go.RowKit
open Sy

theorem none_f (bs : List Bool) (cap : Nat) (j : Nat) (hc : cap.blt big = true) (hl : bs.length < 9000000000000000000) (hj : j < bs.length) (hv : bs.getD j false = true) (hn : ∀ (i : Nat), i < j → bs.getD i false ≠ true) : evF Try.prog noBase (lpOf [idxEntF bs true cap j hc hl hj hv hn]) 100 5 23 [Value.slice (some { block := 64, off := 0 }) bs.length cap] (noneK bs cap [(10 ^ 9, true)]) = some (Value.bool !decide ((↑j : Int) ≥ (0 : Int)), { n := 65, h := [(64, { rw := false, op := none, cells := bools bs, it := none : Blk })], lo := [], esc := 0, T := [(1000000000, true)], k := 0, O := True ∧ (Value.slice (some { block := 64, off := 0 }) bs.length cap = Value.slice (some { block := 64, off := 0 }) bs.length cap ∧ Value.bool true = Value.bool true ∧ Value.int IntKind.i64 (↑bs.length : Int) = Value.int IntKind.i64 (↑bs.length : Int) ∧ Value.int IntKind.i64 (0 : Int) = Value.int IntKind.i64 (0 : Int) ∧ True) ∧ ((true = true ∧ true = true ∧ True ∧ bools bs = bools bs) ∧ True) ∧ True ∧ True : St }) := by kernel_rfl
theorem none_n (bs : List Bool) (cap : Nat) (hc : cap.blt big = true) (hl : bs.length < 9000000000000000000) (hn : ∀ (i : Nat), i < bs.length → bs.getD i false ≠ true) : evF Try.prog noBase (lpOf [idxEntN bs true cap hc hl hn]) 100 5 23 [Value.slice (some { block := 64, off := 0 }) bs.length cap] (noneK bs cap [(10 ^ 9, true)]) = some (Value.bool true, { n := 65, h := [(64, { rw := false, op := none, cells := bools bs, it := none : Blk })], lo := [], esc := 0, T := [(1000000000, true)], k := 0, O := True ∧ (Value.slice (some { block := 64, off := 0 }) bs.length cap = Value.slice (some { block := 64, off := 0 }) bs.length cap ∧ Value.bool true = Value.bool true ∧ Value.int IntKind.i64 (↑bs.length : Int) = Value.int IntKind.i64 (↑bs.length : Int) ∧ Value.int IntKind.i64 (0 : Int) = Value.int IntKind.i64 (0 : Int) ∧ True) ∧ ((true = true ∧ true = true ∧ True ∧ bools bs = bools bs) ∧ True) ∧ True ∧ True : St }) := by kernel_rfl
theorem i_names : namesOk Try.prog = true := by kernel_rfl
theorem least_of (bs : List Bool) (v : Bool) (h : ∃ i, i < bs.length ∧ bs.getD i false = v) : ∃ j, j < bs.length ∧ bs.getD j false = v ∧ ∀ i, i < j → bs.getD i false ≠ v := by
  obtain ⟨i, hi, hv⟩ := h
  induction i using Nat.strongRecOn with
  | _ i ih =>
    by_cases h : ∃ k, k < i ∧ bs.getD k false = v
    · obtain ⟨k, hk, hkv⟩ := h
      exact ih k hk (by omega) hkv
    · exact ⟨i, hi, hv, fun k hk e => h ⟨k, hk, e⟩⟩
theorem any_getD (bs : List Bool) : bs.any id = true ↔ ∃ i, i < bs.length ∧ bs.getD i false = true := by
  rw [List.any_eq_true]
  constructor
  · rintro ⟨b, hb, h⟩
    obtain ⟨i, hi, rfl⟩ := List.getElem_of_mem hb
    exact ⟨i, hi, by rw [List.getD_eq_getElem?_getD, List.getElem?_eq_getElem hi]; exact h⟩
  · rintro ⟨i, hi, h⟩
    rw [List.getD_eq_getElem?_getD, List.getElem?_eq_getElem hi] at h
    exact ⟨bs[i], List.getElem_mem hi, h⟩
theorem noneC_wf (bs : List Bool) (cap : Nat) (hc : Nat.blt cap big = true) : (noneC bs cap).Wf 3 :=
  ⟨ng65, Nat.le_refl _, ⟨⟨rfl, rfl, flat_bnd (bools_flat bs)⟩, trivial⟩, rfl, rfl, rfl, by simp [noneC, okV, bndA, hc], rfl, fun x hx => by cases hx⟩
theorem none_ok (bs : List Bool) (cap : Nat) (hc : Nat.blt cap big = true) (hl : bs.length < 9000000000000000000) : ConOk Try.prog 23 3 (noneC bs cap) := by
  by_cases h : ∃ i, i < bs.length ∧ bs.getD i false = true
  · obtain ⟨j, hj, hv, hn⟩ := least_of bs true h
    refine conOk_run (run_ok i_names (noBase_ok _) (lpOf_ok _) 5) (noneC_wf bs cap hc) (none_f bs cap j hc hl hj hv hn) ?_ (p := fun l => Nat.blt l 65) (σ := id) ?_
    · exact ⟨trivial, ⟨rfl, rfl, rfl, rfl, trivial⟩, ⟨⟨rfl, rfl, trivial, rfl⟩, trivial⟩, trivial, trivial⟩
    · have : bs.any id = true := (any_getD bs).2 h
      refine ⟨fun _ _ => rfl, trivial, rfl, trivial, ⟨rfl, ?_⟩, rfl, trivial, rfl, bnd_bool _ _, fun x hx => by cases hx⟩
      rw [rnV_id]; simp [noneC, this]
  · have hn : ∀ i, i < bs.length → bs.getD i false ≠ true := fun i hi e => h ⟨i, hi, e⟩
    refine conOk_run (run_ok i_names (noBase_ok _) (lpOf_ok _) 5) (noneC_wf bs cap hc) (none_n bs cap hc hl hn) ?_ (p := fun l => Nat.blt l 65) (σ := id) ?_
    · exact ⟨trivial, ⟨rfl, rfl, rfl, rfl, trivial⟩, ⟨⟨rfl, rfl, trivial, rfl⟩, trivial⟩, trivial, trivial⟩
    · have : bs.any id = false := by
        cases hb : bs.any id
        · rfl
        · exact absurd ((any_getD bs).1 hb) h
      refine ⟨fun _ _ => rfl, trivial, rfl, trivial, ⟨rfl, ?_⟩, rfl, trivial, rfl, bnd_bool _ _, fun x hx => by cases hx⟩
      rw [rnV_id]; simp [noneC, this]
end Go.Proofs.Ytdljpnebpoaeiaa
