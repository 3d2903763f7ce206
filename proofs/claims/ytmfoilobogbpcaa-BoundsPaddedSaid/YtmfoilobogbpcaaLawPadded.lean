/-
  BoundsPadded: padded bytes, from a multiple of align on, have exact bounds; a size is not made less, and by less than align more; what is padded is padded to itself. No condition.
-/
import Derived.Test.YtmfoilobogbpcaaBndWorks
import Derived.Test.YtmfoilobogbpcaaBndMath
import Derived.Test.YtmfoilobogbpcaaFrame
namespace Go.Proofs.Ytmfoilobogbpcaa
open Go.ChangeShapes Go.WideShapes Go.ChangeAt Go.RowKit
open Go.ChangeMaps (open_string shut_string)

theorem bpadded_no (s pl : Nat) (w : World) (_hs : s < 4294967296) (_hpl : pl < 4294967296) (hb : (4292870144 : Int) < s)
    (HP : Hid (∀ W, Calls Try.prog 23 #[.int .u32 s] W fun e' w' => e' = .returned (.tuple #[.int .u32 0, .int .u32 0]) ∧ ∃ m, w' = W.drewN m)) :
    Calls Try.prog 10 #[.int .u32 s, .int .u32 pl] w fun e' w' => e' = .returned (.bool true) ∧ Below w.heap.size w w' := by
  go_enter Try.func10, Try.ntmps10
  go_wp2_with fail
  refine (HP.out _).mono ?_
  rintro e' w2 ⟨rfl, m1, rfl⟩
  go_wp2_with fail
  refine (bworks_any _).mono ?_
  rintro e' w6 ⟨rfl, hb6⟩
  have HB6 := hide hb6; clear hb6
  go_wp2
  go_ret
  exact ⟨rfl, below_of_drewN HB6.out⟩

set_option maxRecDepth 100000 in
theorem bpadded_far (s pl u p q B : Nat) (w : World) (hs : s < 4294967296) (hpl : pl < 4294967296) (hu : (u : Int) ≤ 5000000000) (hp : (p : Int) ≤ 2097152) (hp0 : (1 : Int) ≤ p)
    (g0 : ((p : Int) == 0) = false) (_g1 : decide ((u : Int) < s) = false) (g1' : (s : Int) ≤ u) (g1s : (u : Int) - s ≤ 2097152) (g2 : decide ((p : Int) ≤ (u : Int) - s) = false) (g3 : (u : Int) % p = 0)
    (r1 : (pl : Int) / p = q) (r2 : (q : Int) * p = B) (hB : (B : Int) ≤ pl) (hq : (q : Int) ≤ pl) (hfar : (4294967296 : Int) < (B : Int) + u)
    (HP : Hid (∀ W, Calls Try.prog 23 #[.int .u32 s] W fun e' w' => e' = .returned (.tuple #[.int .u32 u, .int .u32 p]) ∧ ∃ m, w' = W.drewN m))
    (HQ : Hid (∀ W, Calls Try.prog 23 #[.int .u32 u] W fun e' w' => e' = .returned (.tuple #[.int .u32 u, .int .u32 p]) ∧ ∃ m, w' = W.drewN m)) :
    Calls Try.prog 10 #[.int .u32 s, .int .u32 pl] w fun e' w' => e' = .returned (.bool true) ∧ Below w.heap.size w w' := by
  go_enter Try.func10, Try.ntmps10
  go_wp2_with fail
  refine (HP.out _).mono ?_
  rintro e' w2 ⟨rfl, m1, rfl⟩
  go_wp2_with fail
  refine (HQ.out _).mono ?_
  rintro e' w2 ⟨rfl, m2, rfl⟩
  go_wp2_with fail
  refine (bworks_any _).mono ?_
  rintro e' w6 ⟨rfl, hb6⟩
  have HB6 := hide hb6; clear hb6
  go_wp2
  go_ret
  exact ⟨rfl, below_of_drewN HB6.out⟩

set_option maxRecDepth 100000 in
theorem bpadded_near (s pl u p q B : Nat) (w : World) (hs : s < 4294967296) (hpl : pl < 4294967296) (hu : (u : Int) ≤ 5000000000) (hp : (p : Int) ≤ 2097152) (hp0 : (1 : Int) ≤ p)
    (g0 : ((p : Int) == 0) = false) (_g1 : decide ((u : Int) < s) = false) (g1' : (s : Int) ≤ u) (g1s : (u : Int) - s ≤ 2097152) (g2 : decide ((p : Int) ≤ (u : Int) - s) = false) (g3 : (u : Int) % p = 0)
    (r1 : (pl : Int) / p = q) (r2 : (q : Int) * p = B) (hB : (B : Int) ≤ pl) (hq : (q : Int) ≤ pl) (hnear : decide ((4294967296 : Int) < (B : Int) + u) = false)
    (HP : Hid (∀ W, Calls Try.prog 23 #[.int .u32 s] W fun e' w' => e' = .returned (.tuple #[.int .u32 u, .int .u32 p]) ∧ ∃ m, w' = W.drewN m))
    (HQ : Hid (∀ W, Calls Try.prog 23 #[.int .u32 u] W fun e' w' => e' = .returned (.tuple #[.int .u32 u, .int .u32 p]) ∧ ∃ m, w' = W.drewN m))
    (HE : Hid (∀ W, ∃ e b t : Nat, Calls Try.prog 16 #[.int .u32 B, .int .u64 ((B : Int) + u)] W fun e' w' => e' = .returned (.tuple #[.int .u8 e, .int .u16 b, .int .u16 t, .bool true, .bool true]) ∧ ∃ m, w' = W.drewN m)) :
    Calls Try.prog 10 #[.int .u32 s, .int .u32 pl] w fun e' w' => e' = .returned (.bool true) ∧ Below w.heap.size w w' := by
  go_enter Try.func10, Try.ntmps10
  go_wp2_with fail
  refine (HP.out _).mono ?_
  rintro e' w2 ⟨rfl, m1, rfl⟩
  go_wp2_with fail
  refine (HQ.out _).mono ?_
  rintro e' w2 ⟨rfl, m2, rfl⟩
  go_wp2_with fail
  obtain ⟨e, b, t, he⟩ := HE.out (w.drewN (m1 + m2))
  refine he.mono ?_
  rintro e' w2 ⟨rfl, m3, rfl⟩
  clear he
  go_wp2_with fail
  refine (bworks_any _).mono ?_
  rintro e' w6 ⟨rfl, hb6⟩
  have HB6 := hide hb6; clear hb6
  go_wp2
  go_ret
  exact ⟨rfl, below_of_drewN HB6.out⟩

theorem bpadded_walk (s pl : Nat) (w : World) (hs : s < 4294967296) (hpl : pl < 4294967296) :
    Calls Try.prog 10 #[.int .u32 s, .int .u32 pl] w fun e' w' => e' = .returned (.bool true) ∧ Below w.heap.size w w' := by
  have hp := fun W => pad_any s W hs
  have hk := expo_le 0 s
  have hu1 := up_ge s (expoN 0 s)
  have hu2 := up_lt s (expoN 0 s)
  have hw := up_whole (t := s) hk (by omega)
  have hpw := pow_le_21 hk
  have hp0 := pow_pos2 (expoN 0 s)
  have hag := pad_again hs
  have hid := up_idem s (expoN 0 s)
  have hf := expo_fits (b := 0) (t := s) (by omega)
  rw [fits_zero, decide_eq_true_eq] at hf
  by_cases c : upN s (expoN 0 s) = 4294967296
  · unfold padN padA at hp
    simp only [if_pos c] at hp
    exact bpadded_no s pl w hs hpl (by omega) hp
  · have hu4 : upN s (expoN 0 s) < 4294967296 := by omega
    have hq := fun W => pad_any (upN s (expoN 0 s)) W hu4
    unfold padN padA at hp hq
    rw [hag, hid] at hq
    simp only [if_neg c] at hp hq
    have hm : upN s (expoN 0 s) % 2 ^ expoN 0 s = 0 := by unfold upN; exact Nat.mul_mod_left _ _
    have hd : upN s (expoN 0 s) = upN s (expoN 0 s) / 2 ^ expoN 0 s * 2 ^ expoN 0 s := (Nat.div_mul_cancel (Nat.dvd_of_mod_eq_zero hm)).symm
    have hex := fun (h : pl / 2 ^ expoN 0 s * 2 ^ expoN 0 s + upN s (expoN 0 s) / 2 ^ expoN 0 s * 2 ^ expoN 0 s ≤ 4294967296) => pad_exact (a := pl / 2 ^ expoN 0 s) (p := upN s (expoN 0 s) / 2 ^ expoN 0 s) (k := expoN 0 s) (by rw [← hd]; exact hf) h
    rw [← hd] at hex
    have hB : pl / 2 ^ expoN 0 s * 2 ^ expoN 0 s ≤ pl := Nat.div_mul_le_self _ _
    have hqq : pl / 2 ^ expoN 0 s ≤ pl := Nat.div_le_self _ _
    generalize upN s (expoN 0 s) = u at *
    generalize 2 ^ expoN 0 s = p at *
    obtain ⟨q, hqe⟩ : ∃ q, pl / p = q := ⟨_, rfl⟩
    rw [hqe] at hex hB hqq
    obtain ⟨B, hBe⟩ : ∃ B, q * p = B := ⟨_, rfl⟩
    rw [hBe] at hex hB
    have r1 : (pl : Int) / p = q := by rw [← hqe]; simp
    have r2 : (q : Int) * p = B := by rw [← hBe]; simp
    have g0 : ((p : Int) == 0) = false := by simp; omega
    have g1 : decide ((u : Int) < s) = false := by simp; omega
    have g2 : decide ((p : Int) ≤ (u : Int) - s) = false := by simp; omega
    have g3 : (u : Int) % p = 0 := by omega
    by_cases hfar : (4294967296 : Int) < (B : Int) + u
    · exact bpadded_far s pl u p q B w hs hpl (by omega) (by omega) (by omega) g0 g1 (by omega) (by omega) g2 g3 r1 r2 (by omega) (by omega) hfar hp hq
    · obtain ⟨x1, x2⟩ := hex (by omega)
      refine bpadded_near s pl u p q B w hs hpl (by omega) (by omega) (by omega) g0 g1 (by omega) (by omega) g2 g3 r1 r2 (by omega) (by omega) (by simp; omega) hp hq (fun W => ?_)
      have he := encode_any B (B + u) W (by omega) (by omega)
      rw [x1, x2, show ((B + u : Nat) : Int) = (B : Int) + u by omega] at he
      exact ⟨_, _, _, he⟩
theorem bpadded_law : LawWalk 10 Try.f10 := by
  intro H enc W base args ds p hval hA
  rw [Try.params10] at hA hval
  obtain ⟨v0, vs0, d0, ds0, p0, q0, hargs, rfl, rfl, h0, r0⟩ := trodAll_cons hA
  obtain ⟨v1, vs1, d1, ds1, p1, q1, rfl, rfl, rfl, h1, r1⟩ := trodAll_cons r0
  obtain ⟨rfl, rfl, rfl⟩ := trodAll_nil r1
  obtain rfl : args = #[v0, v1] := by cases args; simp_all
  obtain ⟨a0, rfl, rfl, rfl, w0⟩ := open_int Try.underlying25 (hval 0 _ v0 rfl rfl) h0
  have b0 := wf_u32 w0
  obtain ⟨a1, rfl, rfl, rfl, w1⟩ := open_int Try.underlying25 (hval 1 _ v1 rfl rfl) h1
  have b1 := wf_u32 w1
  obtain ⟨a, rfl⟩ := Int.eq_ofNat_of_zero_le b0.1
  obtain ⟨b, rfl⟩ := Int.eq_ofNat_of_zero_le b1.1
  exact bpadded_walk a b W (by omega) (by omega)
set_option maxRecDepth 100000 in
theorem boundsPadded_proved : Rows.BoundsPaddedSaid :=
  OpenClaim.holds_of_wide 10 Try.f10 rfl rfl rfl rfl rfl rfl rfl ⟨rfl, rfl, rfl, rfl, rfl⟩ rfl rfl rfl rfl rfl (by kernel_rfl) Try.func10 (by kernel_rfl)
    (of_decide_eq_true (by kernel_rfl)) (by unfold Func.isWrapper; first | (rw [if_pos (by decide +kernel)]; kernel_rfl) | (rw [if_neg (by decide +kernel)]; exact ⟨rfl, rfl⟩))
    (fun os started H enc _ => law_lifted 10 Try.f10 Rows.boundsPaddedSpec Rows.boundsPaddedRow.domain Try.func10 (by kernel_rfl) rfl rfl
      (fun H ds hd => by match ds, hd with | [d0, d1], _ => exact ⟨rfl, rfl, rfl⟩) (by decide +kernel) bpadded_law os started H enc
      (ChangeSpec.witness6 (enc := enc) (C := Try.checked) false ⟨#[], #[.int .u32 0, .int .u32 0], []⟩ 8 (by kernel_rfl) (by kernel_rfl) (by kernel_rfl) (by kernel_rfl)))
#print axioms boundsPadded_proved
end Go.Proofs.Ytmfoilobogbpcaa
