/-
  Chapter 21: so many bytes as a region.
-/
import Derived.Test.YtdljpnebpoaeiaaImgE
import Derived.Test.YtdljpnebpoaeiaaBndMath
import Derived.Laws.BitsAllLaws
namespace Go.Proofs.Ytdljpnebpoaeiaa
open Go.RowKit
open Sy

theorem sized_r (n : Int) : obs (evF Try.prog (baseC 3 selI) noLoop 100 10 52 [Value.int IntKind.i64 n] (stT [])) = some (Value.tuple { toList := [Value.int IntKind.u32 (↑(padN (bits BinOp.andNot IntKind.u32 (IntKind.u32.wrap (IntKind.i64.wrap (IntKind.i64.wrap (n + (256 : Int)) - (1 : Int)))) (255 : Int)).toNat) : Int), Value.int IntKind.u32 (if (256 : Int) > (↑(padA (bits BinOp.andNot IntKind.u32 (IntKind.u32.wrap (IntKind.i64.wrap (IntKind.i64.wrap (n + (256 : Int)) - (1 : Int)))) (255 : Int)).toNat) : Int) then (256 : Int) else (↑(padA (bits BinOp.andNot IntKind.u32 (IntKind.u32.wrap (IntKind.i64.wrap (IntKind.i64.wrap (n + (256 : Int)) - (1 : Int)))) (255 : Int)).toNat) : Int))] }, True ∧ ((0 : Int) ≤ bits BinOp.andNot IntKind.u32 (IntKind.u32.wrap (IntKind.i64.wrap (IntKind.i64.wrap (n + (256 : Int)) - (1 : Int)))) (255 : Int) ∧ bits BinOp.andNot IntKind.u32 (IntKind.u32.wrap (IntKind.i64.wrap (IntKind.i64.wrap (n + (256 : Int)) - (1 : Int)))) (255 : Int) < (4294967296 : Int)) ∧ (Value.int IntKind.u32 (bits BinOp.andNot IntKind.u32 (IntKind.u32.wrap (IntKind.i64.wrap (IntKind.i64.wrap (n + (256 : Int)) - (1 : Int)))) (255 : Int)) = Value.int IntKind.u32 (bits BinOp.andNot IntKind.u32 (IntKind.u32.wrap (IntKind.i64.wrap (IntKind.i64.wrap (n + (256 : Int)) - (1 : Int)))) (255 : Int)) ∧ True) ∧ True ∧ True) := by kernel_rfl
theorem rsized_r (n : Int) : obs (evF Try.prog (baseC 3 selI) noLoop 100 10 56 [Value.int IntKind.u32 n] (stT [])) = some (Value.tuple { toList := [Value.int IntKind.u32 (↑(padN (IntKind.u32.wrap (IntKind.u32.wrap ((IntKind.u32.wrap (IntKind.u32.wrap (n + (256 : Int)) - (1 : Int))).tdiv (256 : Int)) * (256 : Int))).toNat) : Int), Value.int IntKind.u32 (if (256 : Int) > (↑(padA (IntKind.u32.wrap (IntKind.u32.wrap ((IntKind.u32.wrap (IntKind.u32.wrap (n + (256 : Int)) - (1 : Int))).tdiv (256 : Int)) * (256 : Int))).toNat) : Int) then (256 : Int) else (↑(padA (IntKind.u32.wrap (IntKind.u32.wrap ((IntKind.u32.wrap (IntKind.u32.wrap (n + (256 : Int)) - (1 : Int))).tdiv (256 : Int)) * (256 : Int))).toNat) : Int))] }, True ∧ ((0 : Int) ≤ IntKind.u32.wrap (IntKind.u32.wrap ((IntKind.u32.wrap (IntKind.u32.wrap (n + (256 : Int)) - (1 : Int))).tdiv (256 : Int)) * (256 : Int)) ∧ IntKind.u32.wrap (IntKind.u32.wrap ((IntKind.u32.wrap (IntKind.u32.wrap (n + (256 : Int)) - (1 : Int))).tdiv (256 : Int)) * (256 : Int)) < (4294967296 : Int)) ∧ (Value.int IntKind.u32 (IntKind.u32.wrap (IntKind.u32.wrap ((IntKind.u32.wrap (IntKind.u32.wrap (n + (256 : Int)) - (1 : Int))).tdiv (256 : Int)) * (256 : Int))) = Value.int IntKind.u32 (IntKind.u32.wrap (IntKind.u32.wrap ((IntKind.u32.wrap (IntKind.u32.wrap (n + (256 : Int)) - (1 : Int))).tdiv (256 : Int)) * (256 : Int))) ∧ True) ∧ True ∧ True) := by kernel_rfl
theorem up_r (n : Int) (a : Int) : obs (evF Try.prog (baseC 3 selI) noLoop 100 10 57 [Value.int IntKind.u32 n, Value.int IntKind.u32 a] (stT [])) = some (Value.int IntKind.u32 (IntKind.u32.wrap (IntKind.u32.wrap ((IntKind.u32.wrap (IntKind.u32.wrap (n + a) - (1 : Int))).tdiv a) * a)), bif !decide (a = (0 : Int)) then True else False) := by kernel_rfl
theorem and_high32 (a e : Nat) (ha : a < 4294967296) (he : e ≤ 32) : a &&& (4294967295 - (2 ^ e - 1)) = a / 2 ^ e * 2 ^ e := by
  have h0 := pow_pos2 e
  have h2 : 2 ^ e ≤ 2 ^ 32 := Nat.pow_le_pow_right (by omega) he
  have h1 : 4294967295 - (2 ^ e - 1) = 2 ^ 32 - ((2 ^ e - 1) + 1) := by omega
  rw [h1]
  apply Nat.eq_of_testBit_eq
  intro i
  rw [Nat.testBit_and, Nat.testBit_two_pow_sub_succ (by omega), Nat.testBit_two_pow_sub_one, Nat.testBit_mul_two_pow, Nat.testBit_div_two_pow]
  by_cases hi : e ≤ i
  · rw [Nat.sub_add_cancel hi]
    have e1 : decide (i < e) = false := by simp; omega
    have e2 : decide (e ≤ i) = true := by simpa using hi
    rw [e1, e2]
    by_cases h64 : i < 32
    · have e3 : decide (i < 32) = true := by simpa using h64
      rw [e3]; simp
    · have : a.testBit i = false := Nat.testBit_lt_two_pow (Nat.lt_of_lt_of_le ha (Nat.pow_le_pow_right (n := 2) (by omega) (show 32 ≤ i by omega)))
      rw [this]; simp
  · have e1 : decide (i < e) = true := by simp; omega
    have e2 : decide (e ≤ i) = false := by simpa using hi
    rw [e1, e2]; simp
theorem struck (a e : Nat) (ha : a < 4294967296) (he : e ≤ 31) : bits .andNot .u32 (a : Int) (((2 ^ e - 1 : Nat)) : Int) = ((a / 2 ^ e * 2 ^ e : Nat) : Int) := by
  have h2 : 2 ^ e ≤ 2 ^ 31 := Nat.pow_le_pow_right (by omega) he
  rw [u32_andNot_nat a (2 ^ e - 1) ha (by omega), and_high32 a e ha (by omega)]
def r256 (n : Nat) : Nat := (n + 255) / 256 * 256
theorem sized_in (n : Nat) (h : n ≤ 1000000) : bits .andNot .u32 (IntKind.u32.wrap (IntKind.i64.wrap (IntKind.i64.wrap ((n : Int) + 256) - 1))) 255 = ((r256 n : Nat) : Int) := by
  have e1 : IntKind.u32.wrap (IntKind.i64.wrap (IntKind.i64.wrap ((n : Int) + 256) - 1)) = ((n + 255 : Nat) : Int) := by
    rw [wrap_i64 (x := (n : Int) + 256) (by omega) (by omega), wrap_i64 (by omega) (by omega), IntKind.wrap_u32]; omega
  rw [e1]
  exact struck (n + 255) 8 (by omega) (by omega)
theorem rsized_in (n : Nat) (h : n ≤ 1000000) : IntKind.u32.wrap (IntKind.u32.wrap ((IntKind.u32.wrap (IntKind.u32.wrap ((n : Int) + 256) - 1)).tdiv 256) * 256) = ((r256 n : Nat) : Int) := by
  have e1 : IntKind.u32.wrap (IntKind.u32.wrap ((n : Int) + 256) - 1) = ((n + 255 : Nat) : Int) := by
    rw [IntKind.wrap_u32, IntKind.wrap_u32]; omega
  rw [e1, show ((256 : Int)) = ((256 : Nat) : Int) from rfl, ← Int.ofNat_tdiv, IntKind.wrap_u32, IntKind.wrap_u32]
  unfold r256; omega
theorem max_in (a : Nat) : (if (256 : Int) > (a : Int) then (256 : Int) else (a : Int)) = ((max a 256 : Nat) : Int) := by split <;> omega
theorem pad_256 (n : Nat) (h : n ≤ 100000) : padN (r256 n) = r256 n ∧ max (padA (r256 n)) 256 = 256 := by
  have hs : r256 n ≤ 100352 := by unfold r256; omega
  have he : expoN 0 (r256 n) ≤ 6 := by
    rcases Nat.lt_or_ge 6 (expoN 0 (r256 n)) with hlt | hge
    · have := expo_least hlt
      unfold fitsN at this
      have h1 := up_lt (r256 n) 6
      have h2 := dn_le 0 6
      simp only [decide_eq_false_iff_not] at this
      omega
    · exact hge
  have hu : upN (r256 n) (expoN 0 (r256 n)) = r256 n := by
    have := up_mul ((n + 255) / 256) 8 (expoN 0 (r256 n)) (by omega)
    exact this
  have hp : 2 ^ expoN 0 (r256 n) ≤ 2 ^ 6 := Nat.pow_le_pow_right (by omega) he
  unfold padN padA
  rw [hu, if_neg (by omega), if_neg (by omega)]
  exact ⟨rfl, by omega⟩
def sizedV (x : Int) : Value := .tuple ⟨[.int .u32 (r256 x.toNat : Nat), .int .u32 256]⟩
def sizedC (x : Int) : Con := Con.pure [.int .i64 x] (sizedV x)
def rsizedC (x : Int) : Con := Con.pure [.int .u32 x] (sizedV x)
def szOk (x : Int) : Prop := 0 ≤ x ∧ x ≤ 100000
theorem sizedC_ok (x : Int) (h : szOk x) : ConOk Try.prog 52 3 (sizedC x) := by
  obtain ⟨n, rfl⟩ := Int.eq_ofNat_of_zero_le h.1
  have hn : n ≤ 100000 := by have := h.2; omega
  have hr := sized_r (n : Int)
  rw [sized_in n (by omega), Int.toNat_natCast, max_in, (pad_256 n hn).1, (pad_256 n hn).2] at hr
  refine pure_run (run_ok i_names (baseC_ok selI_ok) (noLoop_ok _) 10) hr ?_ rfl rfl
  exact ⟨trivial, ⟨by omega, by unfold r256; omega⟩, ⟨rfl, trivial⟩, trivial, trivial⟩
theorem rsizedC_ok (x : Int) (h : szOk x) : ConOk Try.prog 56 3 (rsizedC x) := by
  obtain ⟨n, rfl⟩ := Int.eq_ofNat_of_zero_le h.1
  have hn : n ≤ 100000 := by have := h.2; omega
  have hr := rsized_r (n : Int)
  rw [rsized_in n (by omega), Int.toNat_natCast, max_in, (pad_256 n hn).1, (pad_256 n hn).2] at hr
  refine pure_run (run_ok i_names (baseC_ok selI_ok) (noLoop_ok _) 10) hr ?_ rfl rfl
  exact ⟨trivial, ⟨by omega, by unfold r256; omega⟩, ⟨rfl, trivial⟩, trivial, trivial⟩
def selSz : SelC := fun f args _ =>
  match args with
  | [.int _ x] => bif Nat.beq f 52 then some (sizedC x, [], szOk x) else bif Nat.beq f 56 then some (rsizedC x, [], szOk x) else none
  | _ => none
theorem selSz_ok : SelOk Try.prog 3 selSz := by
  intro f args s c ρ q h hq
  unfold selSz at h
  split at h
  · rename_i k x
    cases h1 : Nat.beq f 52 <;> rw [h1] at h
    · simp only [cond_false] at h
      obtain ⟨h2, h⟩ := bif_some h
      have h2 := Nat.eq_of_beq_eq_true h2
      subst h2
      cases h
      exact rsizedC_ok x hq
    · cases h
      have h1 := Nat.eq_of_beq_eq_true h1
      subst h1
      exact sizedC_ok x hq
  · cases h
def selJ : SelC := selOr selSz selI
theorem selJ_ok : SelOk Try.prog 3 selJ := selOr_ok selSz_ok selI_ok
end Go.Proofs.Ytdljpnebpoaeiaa
