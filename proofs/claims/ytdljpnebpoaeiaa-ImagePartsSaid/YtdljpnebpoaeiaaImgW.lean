/-
  Chapter 21: the parts of a layout, in numbers; ImageParts, path by path.
-/
import Derived.Test.YtdljpnebpoaeiaaImgV
namespace Go.Proofs.Ytdljpnebpoaeiaa
open Go.RowKit
open Sy
set_option maxRecDepth 100000
set_option linter.unusedSimpArgs false

theorem enc_256 (a s : Nat) (ha : a % 256 = 0) (hs : s % 256 = 0) (hl : s ≤ 100000) (ht : a + s ≤ 4294967296) : encX a (a + s) = true := by
  obtain ⟨x, rfl⟩ : ∃ x, a = x * 2 ^ 8 := ⟨a / 256, by omega⟩
  obtain ⟨y, hy⟩ : ∃ y, x * 2 ^ 8 + s = y * 2 ^ 8 := ⟨(x * 2 ^ 8 + s) / 256, by omega⟩
  have he : expoN (x * 2 ^ 8) (x * 2 ^ 8 + s) ≤ 6 := by
    rcases Nat.lt_or_ge 6 (expoN (x * 2 ^ 8) (x * 2 ^ 8 + s)) with hlt | hge
    · have := expo_least hlt
      unfold fitsN at this
      rw [dn_mul x 8 6 (by omega), hy, up_mul y 8 6 (by omega), ← hy] at this
      simp only [decide_eq_false_iff_not] at this
      omega
    · exact hge
  unfold encX rightN
  rw [dn_mul x 8 _ (by omega)]
  rw [show upN (x * 2 ^ 8 + s) (expoN (x * 2 ^ 8) (x * 2 ^ 8 + s)) = x * 2 ^ 8 + s by rw [hy]; exact up_mul y 8 _ (by rw [← hy]; omega)]
  simp only [Bool.and_eq_true, decide_eq_true_eq]
  refine ⟨⟨⟨?_, ?_⟩, ?_⟩, ?_⟩ <;> first | trivial | omega
theorem err_arg (pages stack types : Int) (nc : Nat) (data : List UInt8) (rs : List Rl) (starts : List Nat) (he : errOf pages stack types nc data rs starts = 0) : isArg pages stack types nc starts.length = false := by
  unfold errOf at he
  cases hl : isLong nc data.length rs.length starts.length <;> rw [hl] at he <;> try (simp at he; done)
  cases ha : isArg pages stack types nc starts.length <;> rw [ha] at he <;> first | rfl | (simp at he; done)

def PartsRun (pages stack types : Int) (data dd : List UInt8) (co : List Nat) (ro : List Rl) (so : List Nat) (a1 a2 a3 : Option Addr) (c1 c2 c3 : Nat) (h0 : Sy.Heap) (m1 m2 m3 : Nat) : Prop := ∃ (T : List (Nat × Bool)) (q : Prop), obs (evF Try.prog (baseL [3] (ow2C (anV pages stack types data (.slice a1 m1 c1) (.slice a2 m2 c2) (.slice a3 m3 c3)) h0 (lo3 m1 m2 m3) pages stack types dd co ro so) ro so) noLoop 100 10 3 [anV pages stack types data (.slice a1 m1 c1) (.slice a2 m2 c2) (.slice a3 m3 c3)] ⟨67, h0, lo3 m1 m2 m3, 0, T, 0, True⟩) = some (.bool true, q) ∧ q
theorem parts_e (pages stack types : Int) (data dd : List UInt8) (co : List Nat) (ro : List Rl) (so : List Nat) (a1 a2 a3 : Option Addr) (c1 c2 c3 : Nat) (h0 : Sy.Heap) (m1 m2 m3 : Nat) (hi : ImOk ro so) (he : errOf pages stack types co.length dd ro so ≠ 0) : PartsRun pages stack types data dd co ro so a1 a2 a3 c1 c2 c3 h0 m1 m2 m3 := by
  refine ⟨_, _, ip_e pages stack types data dd co ro so a1 a2 a3 c1 c2 c3 h0 m1 m2 m3, ?_⟩
  have hp : ∀ x, pe (errOf pages stack types co.length dd ro so) x = 0 := beq_ne he
  have h0 : (((errOf pages stack types co.length dd ro so : Nat) : Int) != 0) = true := by simp; omega
  simp only [hp, h0, BEq.rfl, Bool.and_self]
  repeat' (with_reducible apply And.intro)
  all_goals first | exact hi | with_reducible trivial | with_reducible rfl | exact Nat.le_refl _ | exact flat_all (rels_flat ro) | exact (flat_map (rels_flat ro)).symm | exact flat_all (u32s_flat so) | exact (flat_map (u32s_flat so)).symm
theorem parts_1 (pages stack types : Int) (data dd : List UInt8) (co : List Nat) (ro : List Rl) (so : List Nat) (a1 a2 a3 : Option Addr) (c1 c2 c3 : Nat) (h0 : Sy.Heap) (m1 m2 m3 : Nat) (hi : ImOk ro so) (he : errOf pages stack types co.length dd ro so = 0) (hs : so.length = 1) : PartsRun pages stack types data dd co ro so a1 a2 a3 c1 c2 c3 h0 m1 m2 m3 := by
  refine ⟨_, _, ip_1 pages stack types data dd co ro so a1 a2 a3 c1 c2 c3 h0 m1 m2 m3, ?_⟩
  have hp : ∀ x, pe (errOf pages stack types co.length dd ro so) x = ((x : Nat) : Int) := fun x => by rw [he]; rfl
  have h0 : (((errOf pages stack types co.length dd ro so : Nat) : Int) != 0) = false := by rw [he]; rfl
  obtain ⟨⟨k1, k2, k3, k4, k5, k6, k7, k8⟩, hg, _⟩ := err_zero _ _ _ _ _ _ _ he
  have ha := err_arg _ _ _ _ _ _ _ he
  obtain ⟨p, rfl⟩ := Int.eq_ofNat_of_zero_le k1
  obtain ⟨s, rfl⟩ := Int.eq_ofNat_of_zero_le k3
  unfold isArg at ha
  simp only [Bool.or_eq_false_iff, decide_eq_false_iff_not] at ha
  have hs0 : 256 ≤ s := by omega
  unfold layBig layFrom at hg
  simp only [decide_eq_false_iff_not, Int.toNat_natCast] at hg
  have q1 := r256_le (4 * co.length)
  have q2 := r256_le dd.length
  have q5 : 4 * co.length ≤ r256 (4 * co.length) := by unfold r256; omega
  have q6 : dd.length ≤ r256 dd.length := by unfold r256; omega
  have n1 := r256_mod (4 * co.length)
  have n2 := r256_mod dd.length
  simp only [hp, h0, hs, layFrom, Int.toNat_natCast, lenT_eq] at hg ⊢
  generalize r256 (4 * co.length) = C at *
  generalize r256 dd.length = D at *
  have hS : s * 1 ≤ 16384 := by omega
  have n3 : s * 1 % 256 = 0 := by omega
  have w1 : ∀ x : Nat, x < 4294967296 → IntKind.u32.wrap (x : Int) = (x : Int) := fun x h => u32_nat x h
  have w2 : ∀ x : Nat, x < 4294967296 → IntKind.i64.wrap (x : Int) = (x : Int) := fun x h => wrap_i64 (by omega) (by omega)
  have t1 : ∀ x : Nat, x % 256 = 0 → (((x : Nat) : Int).tmod 256 != 0) = false := fun x h => by rw [show (256 : Int) = ((256 : Nat) : Int) from rfl, ← Int.ofNat_tmod, h]; rfl
  have f1 : IntKind.u32.wrap ((0 : Int) + ((C : Nat) : Int)) = ((C : Nat) : Int) := by rw [Int.zero_add]; exact w1 C (by omega)
  have f2 : IntKind.u32.wrap (((C : Nat) : Int) + ((D : Nat) : Int)) = ((C + D : Nat) : Int) := u32_add C D (by omega)
  have f3 : IntKind.u32.wrap (((C + D : Nat) : Int) + ((s * 1 : Nat) : Int)) = ((C + D + s * 1 : Nat) : Int) := u32_add (C + D) (s * 1) (by omega)
  have f4 : IntKind.u32.wrap (((C + D + s * 1 : Nat) : Int) + ((p * 256 - (C + D + s * 1) : Nat) : Int)) = ((p * 256 : Nat) : Int) := by rw [u32_add _ _ (by omega)]; congr 1; omega
  have f5 : IntKind.u32.wrap (IntKind.u32.wrap ((p : Nat) : Int) * (256 : Int)) = ((p * 256 : Nat) : Int) := by rw [IntKind.wrap_u32, IntKind.wrap_u32]; omega
  have f6 : IntKind.i64.wrap ((4 : Int) * ((co.length : Nat) : Int)) = ((4 * co.length : Nat) : Int) := by rw [wrap_i64 (by omega) (by omega)]; omega
  have f7 : IntKind.i64.wrap (((s : Nat) : Int) * ((1 : Nat) : Int)) = ((s * 1 : Nat) : Int) := by rw [Int.ofNat_mul_ofNat, wrap_i64 (by omega) (by omega)]
  have f8 : IntKind.u32.wrap ((s : Nat) : Int) = ((s : Nat) : Int) := w1 s (by omega)
  have g0 : IntKind.u32.wrap (IntKind.i64.wrap ((0 : Int) * ((s : Nat) : Int))) = ((0 * s : Nat) : Int) := by rw [wrap_i64 (by omega) (by omega), IntKind.wrap_u32]; omega
  have u0 : IntKind.u32.wrap (((C + D : Nat) : Int) + ((0 * s : Nat) : Int)) = ((C + D + 0 * s : Nat) : Int) := u32_add (C + D) (0 * s) (by omega)
  have e0 : encX (C + D + 0 * s) (C + D + 0 * s + s) = true := enc_256 (C + D + 0 * s) s (by omega) (by omega) (by omega) (by omega)
  have e8 : encX 0 (0 + C) = true := enc_256 0 C rfl n1 (by omega) (by omega)
  have e9 : encX C (C + D) = true := enc_256 C D n1 n2 (by omega) (by omega)
  have h1 : IntKind.i64.wrap ((C : Nat) : Int) = ((C : Nat) : Int) := w2 C (by omega)
  have h2 : IntKind.i64.wrap ((D : Nat) : Int) = ((D : Nat) : Int) := w2 D (by omega)
  have h3 : IntKind.i64.wrap ((s * 1 : Nat) : Int) = ((s * 1 : Nat) : Int) := w2 _ (by omega)
  have r1 : ((((p * 256 - (C + D + s * 1) : Nat) : Int)) == (0 : Int)) = false := by rw [beq_eq_false_iff_ne]; omega
  have r2 : decide (((C : Nat) : Int) < ((4 * co.length : Nat) : Int)) = false := by rw [decide_eq_false_iff_not]; omega
  have r3 : decide (((D : Nat) : Int) < ((dd.length : Nat) : Int)) = false := by rw [decide_eq_false_iff_not]; omega
  have m1 : (((C : Nat) : Int).tmod 256 != 0) = false := t1 C n1
  have m2 : (((D : Nat) : Int).tmod 256 != 0) = false := t1 D n2
  have m3 : (((C + D : Nat) : Int).tmod 256 != 0) = false := t1 _ (by omega)
  have m4 : (((s * 1 : Nat) : Int).tmod 256 != 0) = false := t1 _ n3
  have m5 : (((C + D + s * 1 : Nat) : Int).tmod 256 != 0) = false := t1 _ (by omega)
  have m6 : (((p * 256 - (C + D + s * 1) : Nat) : Int).tmod 256 != 0) = false := t1 _ (by omega)
  have v1 : decide (((C : Nat) : Int) < ((C : Nat) : Int)) = false := by simp
  have v2 : decide (((C + D : Nat) : Int) < ((C + D : Nat) : Int)) = false := by simp
  have v3 : decide (((C + D + s * 1 : Nat) : Int) < ((C + D + s * 1 : Nat) : Int)) = false := by simp
  simp only [f1, f2, f3, f4, f5, f6, f7, f8, g0, u0, e0, e8, e9, h1, h2, h3, r1, r2, r3, m1, m2, m3, m4, m5, m6, v1, v2, v3, bne_self_eq_false, Int.toNat_natCast, Bool.not_true, Bool.not_false, and_true, true_and, and_self, eq_self, Nat.le_refl]
  repeat' (with_reducible apply And.intro)
  all_goals first | exact hi | with_reducible rfl | exact flat_all (rels_flat ro) | exact (flat_map (rels_flat ro)).symm | exact flat_all (u32s_flat so) | exact (flat_map (u32s_flat so)).symm | (clear hi; simp only [decide_eq_true_eq, decide_eq_false_iff_not]; omega) | (clear hi; omega)
theorem parts_2 (pages stack types : Int) (data dd : List UInt8) (co : List Nat) (ro : List Rl) (so : List Nat) (a1 a2 a3 : Option Addr) (c1 c2 c3 : Nat) (h0 : Sy.Heap) (m1 m2 m3 : Nat) (hi : ImOk ro so) (he : errOf pages stack types co.length dd ro so = 0) (hs : so.length = 2) : PartsRun pages stack types data dd co ro so a1 a2 a3 c1 c2 c3 h0 m1 m2 m3 := by
  refine ⟨_, _, ip_2 pages stack types data dd co ro so a1 a2 a3 c1 c2 c3 h0 m1 m2 m3, ?_⟩
  have hp : ∀ x, pe (errOf pages stack types co.length dd ro so) x = ((x : Nat) : Int) := fun x => by rw [he]; rfl
  have h0 : (((errOf pages stack types co.length dd ro so : Nat) : Int) != 0) = false := by rw [he]; rfl
  obtain ⟨⟨k1, k2, k3, k4, k5, k6, k7, k8⟩, hg, _⟩ := err_zero _ _ _ _ _ _ _ he
  have ha := err_arg _ _ _ _ _ _ _ he
  obtain ⟨p, rfl⟩ := Int.eq_ofNat_of_zero_le k1
  obtain ⟨s, rfl⟩ := Int.eq_ofNat_of_zero_le k3
  unfold isArg at ha
  simp only [Bool.or_eq_false_iff, decide_eq_false_iff_not] at ha
  have hs0 : 256 ≤ s := by omega
  unfold layBig layFrom at hg
  simp only [decide_eq_false_iff_not, Int.toNat_natCast] at hg
  have q1 := r256_le (4 * co.length)
  have q2 := r256_le dd.length
  have q5 : 4 * co.length ≤ r256 (4 * co.length) := by unfold r256; omega
  have q6 : dd.length ≤ r256 dd.length := by unfold r256; omega
  have n1 := r256_mod (4 * co.length)
  have n2 := r256_mod dd.length
  simp only [hp, h0, hs, layFrom, Int.toNat_natCast, lenT_eq] at hg ⊢
  generalize r256 (4 * co.length) = C at *
  generalize r256 dd.length = D at *
  have hS : s * 2 ≤ 16384 := by omega
  have n3 : s * 2 % 256 = 0 := by omega
  have w1 : ∀ x : Nat, x < 4294967296 → IntKind.u32.wrap (x : Int) = (x : Int) := fun x h => u32_nat x h
  have w2 : ∀ x : Nat, x < 4294967296 → IntKind.i64.wrap (x : Int) = (x : Int) := fun x h => wrap_i64 (by omega) (by omega)
  have t1 : ∀ x : Nat, x % 256 = 0 → (((x : Nat) : Int).tmod 256 != 0) = false := fun x h => by rw [show (256 : Int) = ((256 : Nat) : Int) from rfl, ← Int.ofNat_tmod, h]; rfl
  have f1 : IntKind.u32.wrap ((0 : Int) + ((C : Nat) : Int)) = ((C : Nat) : Int) := by rw [Int.zero_add]; exact w1 C (by omega)
  have f2 : IntKind.u32.wrap (((C : Nat) : Int) + ((D : Nat) : Int)) = ((C + D : Nat) : Int) := u32_add C D (by omega)
  have f3 : IntKind.u32.wrap (((C + D : Nat) : Int) + ((s * 2 : Nat) : Int)) = ((C + D + s * 2 : Nat) : Int) := u32_add (C + D) (s * 2) (by omega)
  have f4 : IntKind.u32.wrap (((C + D + s * 2 : Nat) : Int) + ((p * 256 - (C + D + s * 2) : Nat) : Int)) = ((p * 256 : Nat) : Int) := by rw [u32_add _ _ (by omega)]; congr 1; omega
  have f5 : IntKind.u32.wrap (IntKind.u32.wrap ((p : Nat) : Int) * (256 : Int)) = ((p * 256 : Nat) : Int) := by rw [IntKind.wrap_u32, IntKind.wrap_u32]; omega
  have f6 : IntKind.i64.wrap ((4 : Int) * ((co.length : Nat) : Int)) = ((4 * co.length : Nat) : Int) := by rw [wrap_i64 (by omega) (by omega)]; omega
  have f7 : IntKind.i64.wrap (((s : Nat) : Int) * ((2 : Nat) : Int)) = ((s * 2 : Nat) : Int) := by rw [Int.ofNat_mul_ofNat, wrap_i64 (by omega) (by omega)]
  have f8 : IntKind.u32.wrap ((s : Nat) : Int) = ((s : Nat) : Int) := w1 s (by omega)
  have g0 : IntKind.u32.wrap (IntKind.i64.wrap ((0 : Int) * ((s : Nat) : Int))) = ((0 * s : Nat) : Int) := by rw [wrap_i64 (by omega) (by omega), IntKind.wrap_u32]; omega
  have u0 : IntKind.u32.wrap (((C + D : Nat) : Int) + ((0 * s : Nat) : Int)) = ((C + D + 0 * s : Nat) : Int) := u32_add (C + D) (0 * s) (by omega)
  have e0 : encX (C + D + 0 * s) (C + D + 0 * s + s) = true := enc_256 (C + D + 0 * s) s (by omega) (by omega) (by omega) (by omega)
  have g1 : IntKind.u32.wrap (IntKind.i64.wrap ((1 : Int) * ((s : Nat) : Int))) = ((1 * s : Nat) : Int) := by rw [wrap_i64 (by omega) (by omega), IntKind.wrap_u32]; omega
  have u1 : IntKind.u32.wrap (((C + D : Nat) : Int) + ((1 * s : Nat) : Int)) = ((C + D + 1 * s : Nat) : Int) := u32_add (C + D) (1 * s) (by omega)
  have e1 : encX (C + D + 1 * s) (C + D + 1 * s + s) = true := enc_256 (C + D + 1 * s) s (by omega) (by omega) (by omega) (by omega)
  have e8 : encX 0 (0 + C) = true := enc_256 0 C rfl n1 (by omega) (by omega)
  have e9 : encX C (C + D) = true := enc_256 C D n1 n2 (by omega) (by omega)
  have h1 : IntKind.i64.wrap ((C : Nat) : Int) = ((C : Nat) : Int) := w2 C (by omega)
  have h2 : IntKind.i64.wrap ((D : Nat) : Int) = ((D : Nat) : Int) := w2 D (by omega)
  have h3 : IntKind.i64.wrap ((s * 2 : Nat) : Int) = ((s * 2 : Nat) : Int) := w2 _ (by omega)
  have r1 : ((((p * 256 - (C + D + s * 2) : Nat) : Int)) == (0 : Int)) = false := by rw [beq_eq_false_iff_ne]; omega
  have r2 : decide (((C : Nat) : Int) < ((4 * co.length : Nat) : Int)) = false := by rw [decide_eq_false_iff_not]; omega
  have r3 : decide (((D : Nat) : Int) < ((dd.length : Nat) : Int)) = false := by rw [decide_eq_false_iff_not]; omega
  have m1 : (((C : Nat) : Int).tmod 256 != 0) = false := t1 C n1
  have m2 : (((D : Nat) : Int).tmod 256 != 0) = false := t1 D n2
  have m3 : (((C + D : Nat) : Int).tmod 256 != 0) = false := t1 _ (by omega)
  have m4 : (((s * 2 : Nat) : Int).tmod 256 != 0) = false := t1 _ n3
  have m5 : (((C + D + s * 2 : Nat) : Int).tmod 256 != 0) = false := t1 _ (by omega)
  have m6 : (((p * 256 - (C + D + s * 2) : Nat) : Int).tmod 256 != 0) = false := t1 _ (by omega)
  have v1 : decide (((C : Nat) : Int) < ((C : Nat) : Int)) = false := by simp
  have v2 : decide (((C + D : Nat) : Int) < ((C + D : Nat) : Int)) = false := by simp
  have v3 : decide (((C + D + s * 2 : Nat) : Int) < ((C + D + s * 2 : Nat) : Int)) = false := by simp
  simp only [f1, f2, f3, f4, f5, f6, f7, f8, g0, u0, e0, g1, u1, e1, e8, e9, h1, h2, h3, r1, r2, r3, m1, m2, m3, m4, m5, m6, v1, v2, v3, bne_self_eq_false, Int.toNat_natCast, Bool.not_true, Bool.not_false, and_true, true_and, and_self, eq_self, Nat.le_refl]
  repeat' (with_reducible apply And.intro)
  all_goals first | exact hi | with_reducible rfl | exact flat_all (rels_flat ro) | exact (flat_map (rels_flat ro)).symm | exact flat_all (u32s_flat so) | exact (flat_map (u32s_flat so)).symm | (clear hi; simp only [decide_eq_true_eq, decide_eq_false_iff_not]; omega) | (clear hi; omega)
theorem parts_3 (pages stack types : Int) (data dd : List UInt8) (co : List Nat) (ro : List Rl) (so : List Nat) (a1 a2 a3 : Option Addr) (c1 c2 c3 : Nat) (h0 : Sy.Heap) (m1 m2 m3 : Nat) (hi : ImOk ro so) (he : errOf pages stack types co.length dd ro so = 0) (hs : so.length = 3) : PartsRun pages stack types data dd co ro so a1 a2 a3 c1 c2 c3 h0 m1 m2 m3 := by
  refine ⟨_, _, ip_3 pages stack types data dd co ro so a1 a2 a3 c1 c2 c3 h0 m1 m2 m3, ?_⟩
  have hp : ∀ x, pe (errOf pages stack types co.length dd ro so) x = ((x : Nat) : Int) := fun x => by rw [he]; rfl
  have h0 : (((errOf pages stack types co.length dd ro so : Nat) : Int) != 0) = false := by rw [he]; rfl
  obtain ⟨⟨k1, k2, k3, k4, k5, k6, k7, k8⟩, hg, _⟩ := err_zero _ _ _ _ _ _ _ he
  have ha := err_arg _ _ _ _ _ _ _ he
  obtain ⟨p, rfl⟩ := Int.eq_ofNat_of_zero_le k1
  obtain ⟨s, rfl⟩ := Int.eq_ofNat_of_zero_le k3
  unfold isArg at ha
  simp only [Bool.or_eq_false_iff, decide_eq_false_iff_not] at ha
  have hs0 : 256 ≤ s := by omega
  unfold layBig layFrom at hg
  simp only [decide_eq_false_iff_not, Int.toNat_natCast] at hg
  have q1 := r256_le (4 * co.length)
  have q2 := r256_le dd.length
  have q5 : 4 * co.length ≤ r256 (4 * co.length) := by unfold r256; omega
  have q6 : dd.length ≤ r256 dd.length := by unfold r256; omega
  have n1 := r256_mod (4 * co.length)
  have n2 := r256_mod dd.length
  simp only [hp, h0, hs, layFrom, Int.toNat_natCast, lenT_eq] at hg ⊢
  generalize r256 (4 * co.length) = C at *
  generalize r256 dd.length = D at *
  have hS : s * 3 ≤ 16384 := by omega
  have n3 : s * 3 % 256 = 0 := by omega
  have w1 : ∀ x : Nat, x < 4294967296 → IntKind.u32.wrap (x : Int) = (x : Int) := fun x h => u32_nat x h
  have w2 : ∀ x : Nat, x < 4294967296 → IntKind.i64.wrap (x : Int) = (x : Int) := fun x h => wrap_i64 (by omega) (by omega)
  have t1 : ∀ x : Nat, x % 256 = 0 → (((x : Nat) : Int).tmod 256 != 0) = false := fun x h => by rw [show (256 : Int) = ((256 : Nat) : Int) from rfl, ← Int.ofNat_tmod, h]; rfl
  have f1 : IntKind.u32.wrap ((0 : Int) + ((C : Nat) : Int)) = ((C : Nat) : Int) := by rw [Int.zero_add]; exact w1 C (by omega)
  have f2 : IntKind.u32.wrap (((C : Nat) : Int) + ((D : Nat) : Int)) = ((C + D : Nat) : Int) := u32_add C D (by omega)
  have f3 : IntKind.u32.wrap (((C + D : Nat) : Int) + ((s * 3 : Nat) : Int)) = ((C + D + s * 3 : Nat) : Int) := u32_add (C + D) (s * 3) (by omega)
  have f4 : IntKind.u32.wrap (((C + D + s * 3 : Nat) : Int) + ((p * 256 - (C + D + s * 3) : Nat) : Int)) = ((p * 256 : Nat) : Int) := by rw [u32_add _ _ (by omega)]; congr 1; omega
  have f5 : IntKind.u32.wrap (IntKind.u32.wrap ((p : Nat) : Int) * (256 : Int)) = ((p * 256 : Nat) : Int) := by rw [IntKind.wrap_u32, IntKind.wrap_u32]; omega
  have f6 : IntKind.i64.wrap ((4 : Int) * ((co.length : Nat) : Int)) = ((4 * co.length : Nat) : Int) := by rw [wrap_i64 (by omega) (by omega)]; omega
  have f7 : IntKind.i64.wrap (((s : Nat) : Int) * ((3 : Nat) : Int)) = ((s * 3 : Nat) : Int) := by rw [Int.ofNat_mul_ofNat, wrap_i64 (by omega) (by omega)]
  have f8 : IntKind.u32.wrap ((s : Nat) : Int) = ((s : Nat) : Int) := w1 s (by omega)
  have g0 : IntKind.u32.wrap (IntKind.i64.wrap ((0 : Int) * ((s : Nat) : Int))) = ((0 * s : Nat) : Int) := by rw [wrap_i64 (by omega) (by omega), IntKind.wrap_u32]; omega
  have u0 : IntKind.u32.wrap (((C + D : Nat) : Int) + ((0 * s : Nat) : Int)) = ((C + D + 0 * s : Nat) : Int) := u32_add (C + D) (0 * s) (by omega)
  have e0 : encX (C + D + 0 * s) (C + D + 0 * s + s) = true := enc_256 (C + D + 0 * s) s (by omega) (by omega) (by omega) (by omega)
  have g1 : IntKind.u32.wrap (IntKind.i64.wrap ((1 : Int) * ((s : Nat) : Int))) = ((1 * s : Nat) : Int) := by rw [wrap_i64 (by omega) (by omega), IntKind.wrap_u32]; omega
  have u1 : IntKind.u32.wrap (((C + D : Nat) : Int) + ((1 * s : Nat) : Int)) = ((C + D + 1 * s : Nat) : Int) := u32_add (C + D) (1 * s) (by omega)
  have e1 : encX (C + D + 1 * s) (C + D + 1 * s + s) = true := enc_256 (C + D + 1 * s) s (by omega) (by omega) (by omega) (by omega)
  have g2 : IntKind.u32.wrap (IntKind.i64.wrap ((2 : Int) * ((s : Nat) : Int))) = ((2 * s : Nat) : Int) := by rw [wrap_i64 (by omega) (by omega), IntKind.wrap_u32]; omega
  have u2 : IntKind.u32.wrap (((C + D : Nat) : Int) + ((2 * s : Nat) : Int)) = ((C + D + 2 * s : Nat) : Int) := u32_add (C + D) (2 * s) (by omega)
  have e2 : encX (C + D + 2 * s) (C + D + 2 * s + s) = true := enc_256 (C + D + 2 * s) s (by omega) (by omega) (by omega) (by omega)
  have e8 : encX 0 (0 + C) = true := enc_256 0 C rfl n1 (by omega) (by omega)
  have e9 : encX C (C + D) = true := enc_256 C D n1 n2 (by omega) (by omega)
  have h1 : IntKind.i64.wrap ((C : Nat) : Int) = ((C : Nat) : Int) := w2 C (by omega)
  have h2 : IntKind.i64.wrap ((D : Nat) : Int) = ((D : Nat) : Int) := w2 D (by omega)
  have h3 : IntKind.i64.wrap ((s * 3 : Nat) : Int) = ((s * 3 : Nat) : Int) := w2 _ (by omega)
  have r1 : ((((p * 256 - (C + D + s * 3) : Nat) : Int)) == (0 : Int)) = false := by rw [beq_eq_false_iff_ne]; omega
  have r2 : decide (((C : Nat) : Int) < ((4 * co.length : Nat) : Int)) = false := by rw [decide_eq_false_iff_not]; omega
  have r3 : decide (((D : Nat) : Int) < ((dd.length : Nat) : Int)) = false := by rw [decide_eq_false_iff_not]; omega
  have m1 : (((C : Nat) : Int).tmod 256 != 0) = false := t1 C n1
  have m2 : (((D : Nat) : Int).tmod 256 != 0) = false := t1 D n2
  have m3 : (((C + D : Nat) : Int).tmod 256 != 0) = false := t1 _ (by omega)
  have m4 : (((s * 3 : Nat) : Int).tmod 256 != 0) = false := t1 _ n3
  have m5 : (((C + D + s * 3 : Nat) : Int).tmod 256 != 0) = false := t1 _ (by omega)
  have m6 : (((p * 256 - (C + D + s * 3) : Nat) : Int).tmod 256 != 0) = false := t1 _ (by omega)
  have v1 : decide (((C : Nat) : Int) < ((C : Nat) : Int)) = false := by simp
  have v2 : decide (((C + D : Nat) : Int) < ((C + D : Nat) : Int)) = false := by simp
  have v3 : decide (((C + D + s * 3 : Nat) : Int) < ((C + D + s * 3 : Nat) : Int)) = false := by simp
  simp only [f1, f2, f3, f4, f5, f6, f7, f8, g0, u0, e0, g1, u1, e1, g2, u2, e2, e8, e9, h1, h2, h3, r1, r2, r3, m1, m2, m3, m4, m5, m6, v1, v2, v3, bne_self_eq_false, Int.toNat_natCast, Bool.not_true, Bool.not_false, and_true, true_and, and_self, eq_self, Nat.le_refl]
  repeat' (with_reducible apply And.intro)
  all_goals first | exact hi | with_reducible rfl | exact flat_all (rels_flat ro) | exact (flat_map (rels_flat ro)).symm | exact flat_all (u32s_flat so) | exact (flat_map (u32s_flat so)).symm | (clear hi; simp only [decide_eq_true_eq, decide_eq_false_iff_not]; omega) | (clear hi; omega)
theorem parts_4 (pages stack types : Int) (data dd : List UInt8) (co : List Nat) (ro : List Rl) (so : List Nat) (a1 a2 a3 : Option Addr) (c1 c2 c3 : Nat) (h0 : Sy.Heap) (m1 m2 m3 : Nat) (hi : ImOk ro so) (he : errOf pages stack types co.length dd ro so = 0) (hs : so.length = 4) : PartsRun pages stack types data dd co ro so a1 a2 a3 c1 c2 c3 h0 m1 m2 m3 := by
  refine ⟨_, _, ip_4 pages stack types data dd co ro so a1 a2 a3 c1 c2 c3 h0 m1 m2 m3, ?_⟩
  have hp : ∀ x, pe (errOf pages stack types co.length dd ro so) x = ((x : Nat) : Int) := fun x => by rw [he]; rfl
  have h0 : (((errOf pages stack types co.length dd ro so : Nat) : Int) != 0) = false := by rw [he]; rfl
  obtain ⟨⟨k1, k2, k3, k4, k5, k6, k7, k8⟩, hg, _⟩ := err_zero _ _ _ _ _ _ _ he
  have ha := err_arg _ _ _ _ _ _ _ he
  obtain ⟨p, rfl⟩ := Int.eq_ofNat_of_zero_le k1
  obtain ⟨s, rfl⟩ := Int.eq_ofNat_of_zero_le k3
  unfold isArg at ha
  simp only [Bool.or_eq_false_iff, decide_eq_false_iff_not] at ha
  have hs0 : 256 ≤ s := by omega
  unfold layBig layFrom at hg
  simp only [decide_eq_false_iff_not, Int.toNat_natCast] at hg
  have q1 := r256_le (4 * co.length)
  have q2 := r256_le dd.length
  have q5 : 4 * co.length ≤ r256 (4 * co.length) := by unfold r256; omega
  have q6 : dd.length ≤ r256 dd.length := by unfold r256; omega
  have n1 := r256_mod (4 * co.length)
  have n2 := r256_mod dd.length
  simp only [hp, h0, hs, layFrom, Int.toNat_natCast, lenT_eq] at hg ⊢
  generalize r256 (4 * co.length) = C at *
  generalize r256 dd.length = D at *
  have hS : s * 4 ≤ 16384 := by omega
  have n3 : s * 4 % 256 = 0 := by omega
  have w1 : ∀ x : Nat, x < 4294967296 → IntKind.u32.wrap (x : Int) = (x : Int) := fun x h => u32_nat x h
  have w2 : ∀ x : Nat, x < 4294967296 → IntKind.i64.wrap (x : Int) = (x : Int) := fun x h => wrap_i64 (by omega) (by omega)
  have t1 : ∀ x : Nat, x % 256 = 0 → (((x : Nat) : Int).tmod 256 != 0) = false := fun x h => by rw [show (256 : Int) = ((256 : Nat) : Int) from rfl, ← Int.ofNat_tmod, h]; rfl
  have f1 : IntKind.u32.wrap ((0 : Int) + ((C : Nat) : Int)) = ((C : Nat) : Int) := by rw [Int.zero_add]; exact w1 C (by omega)
  have f2 : IntKind.u32.wrap (((C : Nat) : Int) + ((D : Nat) : Int)) = ((C + D : Nat) : Int) := u32_add C D (by omega)
  have f3 : IntKind.u32.wrap (((C + D : Nat) : Int) + ((s * 4 : Nat) : Int)) = ((C + D + s * 4 : Nat) : Int) := u32_add (C + D) (s * 4) (by omega)
  have f4 : IntKind.u32.wrap (((C + D + s * 4 : Nat) : Int) + ((p * 256 - (C + D + s * 4) : Nat) : Int)) = ((p * 256 : Nat) : Int) := by rw [u32_add _ _ (by omega)]; congr 1; omega
  have f5 : IntKind.u32.wrap (IntKind.u32.wrap ((p : Nat) : Int) * (256 : Int)) = ((p * 256 : Nat) : Int) := by rw [IntKind.wrap_u32, IntKind.wrap_u32]; omega
  have f6 : IntKind.i64.wrap ((4 : Int) * ((co.length : Nat) : Int)) = ((4 * co.length : Nat) : Int) := by rw [wrap_i64 (by omega) (by omega)]; omega
  have f7 : IntKind.i64.wrap (((s : Nat) : Int) * ((4 : Nat) : Int)) = ((s * 4 : Nat) : Int) := by rw [Int.ofNat_mul_ofNat, wrap_i64 (by omega) (by omega)]
  have f8 : IntKind.u32.wrap ((s : Nat) : Int) = ((s : Nat) : Int) := w1 s (by omega)
  have g0 : IntKind.u32.wrap (IntKind.i64.wrap ((0 : Int) * ((s : Nat) : Int))) = ((0 * s : Nat) : Int) := by rw [wrap_i64 (by omega) (by omega), IntKind.wrap_u32]; omega
  have u0 : IntKind.u32.wrap (((C + D : Nat) : Int) + ((0 * s : Nat) : Int)) = ((C + D + 0 * s : Nat) : Int) := u32_add (C + D) (0 * s) (by omega)
  have e0 : encX (C + D + 0 * s) (C + D + 0 * s + s) = true := enc_256 (C + D + 0 * s) s (by omega) (by omega) (by omega) (by omega)
  have g1 : IntKind.u32.wrap (IntKind.i64.wrap ((1 : Int) * ((s : Nat) : Int))) = ((1 * s : Nat) : Int) := by rw [wrap_i64 (by omega) (by omega), IntKind.wrap_u32]; omega
  have u1 : IntKind.u32.wrap (((C + D : Nat) : Int) + ((1 * s : Nat) : Int)) = ((C + D + 1 * s : Nat) : Int) := u32_add (C + D) (1 * s) (by omega)
  have e1 : encX (C + D + 1 * s) (C + D + 1 * s + s) = true := enc_256 (C + D + 1 * s) s (by omega) (by omega) (by omega) (by omega)
  have g2 : IntKind.u32.wrap (IntKind.i64.wrap ((2 : Int) * ((s : Nat) : Int))) = ((2 * s : Nat) : Int) := by rw [wrap_i64 (by omega) (by omega), IntKind.wrap_u32]; omega
  have u2 : IntKind.u32.wrap (((C + D : Nat) : Int) + ((2 * s : Nat) : Int)) = ((C + D + 2 * s : Nat) : Int) := u32_add (C + D) (2 * s) (by omega)
  have e2 : encX (C + D + 2 * s) (C + D + 2 * s + s) = true := enc_256 (C + D + 2 * s) s (by omega) (by omega) (by omega) (by omega)
  have g3 : IntKind.u32.wrap (IntKind.i64.wrap ((3 : Int) * ((s : Nat) : Int))) = ((3 * s : Nat) : Int) := by rw [wrap_i64 (by omega) (by omega), IntKind.wrap_u32]; omega
  have u3 : IntKind.u32.wrap (((C + D : Nat) : Int) + ((3 * s : Nat) : Int)) = ((C + D + 3 * s : Nat) : Int) := u32_add (C + D) (3 * s) (by omega)
  have e3 : encX (C + D + 3 * s) (C + D + 3 * s + s) = true := enc_256 (C + D + 3 * s) s (by omega) (by omega) (by omega) (by omega)
  have e8 : encX 0 (0 + C) = true := enc_256 0 C rfl n1 (by omega) (by omega)
  have e9 : encX C (C + D) = true := enc_256 C D n1 n2 (by omega) (by omega)
  have h1 : IntKind.i64.wrap ((C : Nat) : Int) = ((C : Nat) : Int) := w2 C (by omega)
  have h2 : IntKind.i64.wrap ((D : Nat) : Int) = ((D : Nat) : Int) := w2 D (by omega)
  have h3 : IntKind.i64.wrap ((s * 4 : Nat) : Int) = ((s * 4 : Nat) : Int) := w2 _ (by omega)
  have r1 : ((((p * 256 - (C + D + s * 4) : Nat) : Int)) == (0 : Int)) = false := by rw [beq_eq_false_iff_ne]; omega
  have r2 : decide (((C : Nat) : Int) < ((4 * co.length : Nat) : Int)) = false := by rw [decide_eq_false_iff_not]; omega
  have r3 : decide (((D : Nat) : Int) < ((dd.length : Nat) : Int)) = false := by rw [decide_eq_false_iff_not]; omega
  have m1 : (((C : Nat) : Int).tmod 256 != 0) = false := t1 C n1
  have m2 : (((D : Nat) : Int).tmod 256 != 0) = false := t1 D n2
  have m3 : (((C + D : Nat) : Int).tmod 256 != 0) = false := t1 _ (by omega)
  have m4 : (((s * 4 : Nat) : Int).tmod 256 != 0) = false := t1 _ n3
  have m5 : (((C + D + s * 4 : Nat) : Int).tmod 256 != 0) = false := t1 _ (by omega)
  have m6 : (((p * 256 - (C + D + s * 4) : Nat) : Int).tmod 256 != 0) = false := t1 _ (by omega)
  have v1 : decide (((C : Nat) : Int) < ((C : Nat) : Int)) = false := by simp
  have v2 : decide (((C + D : Nat) : Int) < ((C + D : Nat) : Int)) = false := by simp
  have v3 : decide (((C + D + s * 4 : Nat) : Int) < ((C + D + s * 4 : Nat) : Int)) = false := by simp
  simp only [f1, f2, f3, f4, f5, f6, f7, f8, g0, u0, e0, g1, u1, e1, g2, u2, e2, g3, u3, e3, e8, e9, h1, h2, h3, r1, r2, r3, m1, m2, m3, m4, m5, m6, v1, v2, v3, bne_self_eq_false, Int.toNat_natCast, Bool.not_true, Bool.not_false, and_true, true_and, and_self, eq_self, Nat.le_refl]
  repeat' (with_reducible apply And.intro)
  all_goals first | exact hi | with_reducible rfl | exact flat_all (rels_flat ro) | exact (flat_map (rels_flat ro)).symm | exact flat_all (u32s_flat so) | exact (flat_map (u32s_flat so)).symm | (clear hi; simp only [decide_eq_true_eq, decide_eq_false_iff_not]; omega) | (clear hi; omega)
theorem parts_run (pages stack types : Int) (data dd : List UInt8) (co : List Nat) (ro : List Rl) (so : List Nat) (a1 a2 a3 : Option Addr) (c1 c2 c3 : Nat) (h0 : Sy.Heap) (m1 m2 m3 : Nat) (hi : ImOk ro so) : PartsRun pages stack types data dd co ro so a1 a2 a3 c1 c2 c3 h0 m1 m2 m3 := by
  by_cases he : errOf pages stack types co.length dd ro so = 0
  · obtain ⟨hk, _, _⟩ := err_zero _ _ _ _ _ _ _ he
    have ha := err_arg _ _ _ _ _ _ _ he
    unfold isArg at ha
    simp only [Bool.or_eq_false_iff, beq_eq_false_iff_ne, ne_eq] at ha
    have h1 := ha.2.2.2.2.2.2.2.2.1
    have h2 := hk.2.2.2.2.2.2.1
    obtain h | h | h | h : so.length = 1 ∨ so.length = 2 ∨ so.length = 3 ∨ so.length = 4 := by omega
    · exact parts_1 pages stack types data dd co ro so a1 a2 a3 c1 c2 c3 h0 m1 m2 m3 hi he h
    · exact parts_2 pages stack types data dd co ro so a1 a2 a3 c1 c2 c3 h0 m1 m2 m3 hi he h
    · exact parts_3 pages stack types data dd co ro so a1 a2 a3 c1 c2 c3 h0 m1 m2 m3 hi he h
    · exact parts_4 pages stack types data dd co ro so a1 a2 a3 c1 c2 c3 h0 m1 m2 m3 hi he h
  · exact parts_e pages stack types data dd co ro so a1 a2 a3 c1 c2 c3 h0 m1 m2 m3 hi he
end Go.Proofs.Ytdljpnebpoaeiaa
