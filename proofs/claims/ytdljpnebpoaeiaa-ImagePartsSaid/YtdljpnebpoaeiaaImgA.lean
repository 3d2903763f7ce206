/-
  Chapter 21: lists of truths looked through.
-/
import Derived.Test.YtdljpnebpoaeiaaImgD
namespace Go.Proofs.Ytdljpnebpoaeiaa
open Go.RowKit
open Sy

theorem idx_a (bs : List Bool) (v : Bool) (cap : Nat) (k : Nat) : evC Try.prog noBase (noLoop 64) 19 100 (loopOf Try.prog 64 0) (Sf.frT 19 (idxI bs v cap k) [(0, true), (1, true)]) = some (Exit.ret, { e := [[Value.slice (some { block := 64, off := 0 }) bs.length cap, Value.bool v, unk, unk, Value.int IntKind.i64 (↑k : Int), Value.int IntKind.i64 (↑k : Int), unk, Value.int IntKind.i64 (↑bs.length : Int), Value.int IntKind.i64 (↑k : Int), Value.bool (decide ((↑k : Int) < (↑bs.length : Int))), Value.int IntKind.i64 (↑k : Int), Value.bool v, Value.slice (some { block := 64, off := 0 }) bs.length cap, Value.int IntKind.i64 (↑k : Int), Value.pointer (some { block := 64, off := 0 + (↑k : Int).toNat * 1 }), Value.bool (boolOf' (getD' undef (bools bs) (0 + (↑k : Int).toNat * 1)))], [Value.bool (v == boolOf' (getD' undef (bools bs) (0 + (↑k : Int).toNat * 1))), Value.int IntKind.i64 (↑k : Int), unk, unk, unk, unk, unk, unk, unk, unk, unk, unk, unk, unk, unk, unk]], s := { n := 65, h := [(64, { rw := false, op := none, cells := bools bs, it := none })], lo := [], esc := 0, T := [], k := 2, O := (bif hasN (0 + (↑k : Int).toNat * 1 + 1) (bools bs) && isLikeL [Value.bool false] (bools bs) (0 + (↑k : Int).toNat * 1) then bif decide ((0 : Int) ≤ (↑k : Int)) && decide ((↑k : Int) < (↑bs.length : Int)) then True ∧ decide ((↑k : Int) < (↑bs.length : Int)) = true else False else False) ∧ (v == boolOf' (getD' undef (bools bs) (0 + (↑k : Int).toNat * 1))) = true } }) := by kernel_rfl
theorem idx_b (bs : List Bool) (v : Bool) (cap : Nat) (k : Nat) : evC Try.prog noBase (noLoop 64) 19 100 (loopOf Try.prog 64 0) (Sf.frT 19 (idxI bs v cap k) [(0, true), (1, false)]) = some (Exit.normal, { e := [[Value.slice (some { block := 64, off := 0 }) bs.length cap, Value.bool v, unk, unk, unk, Value.int IntKind.i64 (↑k : Int), unk, Value.int IntKind.i64 (↑bs.length : Int), Value.int IntKind.i64 (IntKind.i64.wrap ((↑k : Int) + (1 : Int))), Value.bool (decide ((↑k : Int) < (↑bs.length : Int))), Value.int IntKind.i64 (↑k : Int), Value.bool v, Value.slice (some { block := 64, off := 0 }) bs.length cap, Value.int IntKind.i64 (↑k : Int), Value.pointer (some { block := 64, off := 0 + (↑k : Int).toNat * 1 }), Value.bool (boolOf' (getD' undef (bools bs) (0 + (↑k : Int).toNat * 1)))], [Value.bool (v == boolOf' (getD' undef (bools bs) (0 + (↑k : Int).toNat * 1))), unk, Value.int IntKind.i64 (IntKind.i64.wrap ((↑k : Int) + (1 : Int))), unk, unk, unk, unk, unk, unk, unk, unk, unk, unk, unk, unk, unk]], s := { n := 65, h := [(64, { rw := false, op := none, cells := bools bs, it := none })], lo := [], esc := 0, T := [], k := 2, O := (bif hasN (0 + (↑k : Int).toNat * 1 + 1) (bools bs) && isLikeL [Value.bool false] (bools bs) (0 + (↑k : Int).toNat * 1) then bif decide ((0 : Int) ≤ (↑k : Int)) && decide ((↑k : Int) < (↑bs.length : Int)) then True ∧ decide ((↑k : Int) < (↑bs.length : Int)) = true else False else False) ∧ (v == boolOf' (getD' undef (bools bs) (0 + (↑k : Int).toNat * 1))) = false } }) := by kernel_rfl
theorem idx_c (bs : List Bool) (v : Bool) (cap : Nat) (k : Nat) : evC Try.prog noBase (noLoop 64) 19 100 (loopOf Try.prog 64 0) (Sf.frT 19 (idxI bs v cap k) [(0, false)]) = some (Exit.exit 0, { e := [[Value.slice (some { block := 64, off := 0 }) bs.length cap, Value.bool v, unk, unk, unk, unk, unk, Value.int IntKind.i64 (↑bs.length : Int), Value.int IntKind.i64 (↑k : Int), Value.bool (decide ((↑k : Int) < (↑bs.length : Int))), unk, unk, unk, unk, unk, unk], [unk, unk, unk, unk, unk, unk, unk, unk, unk, unk, unk, unk, unk, unk, unk, unk]], s := { n := 65, h := [(64, { rw := false, op := none, cells := bools bs, it := none })], lo := [], esc := 0, T := [], k := 1, O := True ∧ decide ((↑k : Int) < (↑bs.length : Int)) = false } }) := by kernel_rfl
theorem ng65 : NG ≤ 65 := by decide
def idxF (j : Nat) : Sf := ⟨65, [(4, .int .i64 (j : Nat))], [], []⟩
def idxN : Sf := ⟨65, [], [], []⟩
theorem idxI_wf (bs : List Bool) (v : Bool) (cap k : Nat) (hc : Nat.blt cap big = true) : (idxI bs v cap k).Wf :=
  ⟨ng65, Sf.Ok.mk' 3 ⟨⟨rfl, rfl, flat_bnd (bools_flat bs)⟩, trivial⟩ rfl (by simp [idxI, okV, bndA, hc, flat0])⟩
theorem idx_next (bs : List Bool) (v : Bool) (cap k : Nat) (e : Sf) (hc : Nat.blt cap big = true) (hl : bs.length < 9000000000000000000) (hk : k < bs.length) (hv : bs.getD k false ≠ v) (hn : e.n = 65) (he : e.Ok (keeps 65 65 id (fun l => Nat.blt l 65))) :
    ∃ g, evC Try.prog noBase (noLoop 64) 19 100 (loopOf Try.prog 64 0) ((idxI bs v cap k).frT 19 [(0, true), (1, false)]) = some (.normal, g) ∧ g.s.O ∧
      Sf.Leads 3 (fun l => Nat.blt l 65) id (idxI bs v cap k) g (idxI bs v cap (k + 1)) e := by
  refine ⟨_, idx_b bs v cap k, ?_, ?_⟩
  · simp only [bools_has, bools_like, bools_at, Int.toNat_natCast, Nat.zero_add, Nat.mul_one]
    exact ⟨bif_true (by simp; omega) (bif_true (by simp; omega) ⟨trivial, by simp; omega⟩), by simpa using fun e : v = _ => hv e.symm⟩
  · refine ⟨fun _ _ => rfl, ⟨⟨rfl, flat_all (bools_flat bs), rfl, rfl, rfl, trivial, (flat_map (bools_flat bs)).symm⟩, trivial⟩, rfl, trivial, ⟨⟨?_, by rw [rnV_id]; kernel_rfl⟩, ⟨rfl, by kernel_rfl⟩, ⟨rfl, by kernel_rfl⟩, ⟨rfl, ?_⟩, trivial⟩, Nat.le_refl _, fun l hl => blt_no hl, ?_, ?_⟩
    · simp [okV, bndA, hc]
    · refine Eq.trans (b := Value.int .i64 (IntKind.i64.wrap ((k : Int) + 1))) (by kernel_rfl) ?_
      rw [cast_succ_i64 k (by omega)]; rfl
    · rw [hn]; exact he
    · intro x _ _; exact .inl rfl
theorem idx_found (bs : List Bool) (v : Bool) (cap j : Nat) (hc : Nat.blt cap big = true) (hl : bs.length < 9000000000000000000) (hj : j < bs.length) (hv : bs.getD j false = v) (hn : ∀ i, i < j → bs.getD i false ≠ v) :
    ∀ x : { k : Nat // k ≤ j }, LoopOk Try.prog 19 (loopOf Try.prog 64 0) ((idxI bs v cap x.1).fr 19) .ret ((idxF j).fr 19) := by
  refine loop_ok (L := 100) (noBase_ok _) (noLoop_any _ _ 64) (fun _ h => h) (X := { k : Nat // k ≤ j }) (fun x => idxI bs v cap x.1) (fun _ => idxF j) (fun _ => .ret) (fun x => j - x.1) (fun x => idxI_wf bs v cap x.1 hc) ?_
  rintro ⟨k, hk⟩
  by_cases h : k = j
  · subst h
    refine ⟨[(0, true), (1, true)], .ret, _, 3, fun l => Nat.blt l 65, id, idx_a bs v cap k, ?_, .inr ⟨by simp, rfl, ?_⟩⟩
    · simp only [bools_has, bools_like, bools_at, Int.toNat_natCast, Nat.zero_add, Nat.mul_one, hv]
      exact ⟨bif_true (by simp; omega) (bif_true (by simp; omega) ⟨trivial, by simp; omega⟩), by simp⟩
    · exact ⟨fun _ _ => rfl, trivial, rfl, trivial, ⟨⟨rfl, by kernel_rfl⟩, trivial⟩, Nat.le_refl _, fun l hl => blt_no hl, Sf.Ok.mk' 3 trivial rfl (by simp [idxF, okV, flat0]), fun x hx => by cases hx⟩
  · obtain ⟨g, h1, h2, h3⟩ := idx_next bs v cap k (idxF j) hc hl (by omega) (hn k (by omega)) rfl (Sf.Ok.mk' 3 trivial rfl (by simp [idxF, okV, flat0]))
    exact ⟨_, .normal, g, 3, _, _, h1, h2, .inl ⟨rfl, ⟨k + 1, by omega⟩, by show j - (k + 1) < j - k; omega, rfl, rfl, h3⟩⟩
theorem idx_none (bs : List Bool) (v : Bool) (cap : Nat) (hc : Nat.blt cap big = true) (hl : bs.length < 9000000000000000000) (hn : ∀ i, i < bs.length → bs.getD i false ≠ v) :
    ∀ x : { k : Nat // k ≤ bs.length }, LoopOk Try.prog 19 (loopOf Try.prog 64 0) ((idxI bs v cap x.1).fr 19) (.exit 0) (idxN.fr 19) := by
  refine loop_ok (L := 100) (noBase_ok _) (noLoop_any _ _ 64) (fun _ h => h) (X := { k : Nat // k ≤ bs.length }) (fun x => idxI bs v cap x.1) (fun _ => idxN) (fun _ => .exit 0) (fun x => bs.length - x.1) (fun x => idxI_wf bs v cap x.1 hc) ?_
  rintro ⟨k, hk⟩
  by_cases h : k < bs.length
  · obtain ⟨g, h1, h2, h3⟩ := idx_next bs v cap k idxN hc hl h (hn k h) rfl (Sf.Ok.mk' 3 trivial rfl (by simp [idxN]))
    exact ⟨_, .normal, g, 3, _, _, h1, h2, .inl ⟨rfl, ⟨k + 1, by omega⟩, by show bs.length - (k + 1) < bs.length - k; omega, rfl, rfl, h3⟩⟩
  · refine ⟨[(0, false)], .exit 0, _, 3, fun l => Nat.blt l 65, id, idx_c bs v cap k, ?_, .inr ⟨by simp, rfl, ?_⟩⟩
    · simp; omega
    · exact ⟨fun _ _ => rfl, trivial, rfl, trivial, trivial, Nat.le_refl _, fun l hl => blt_no hl, Sf.Ok.mk' 3 trivial rfl (by simp [idxN]), fun x hx => by cases hx⟩
end Go.Proofs.Ytdljpnebpoaeiaa
