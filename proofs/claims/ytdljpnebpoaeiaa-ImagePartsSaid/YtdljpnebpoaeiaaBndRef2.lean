/-
  Walks of the document's answer for layer 3: rounded, exponent, Encode, Round, Pad.
-/
import Derived.Test.YtdljpnebpoaeiaaBndRef
namespace Go.Proofs.Ytdljpnebpoaeiaa
open Go.RowKit

theorem up_form (t U : Nat) (hU : 0 < U) : t + U - 1 = t + (U - 1) := by omega

theorem rrounded_any (b t e : Nat) (w : World) (hb : b < 4294967296) (ht : t ≤ 4294967296) (he : e ≤ 21) :
    Calls Try.prog 68 #[.int .u32 b, .int .u64 t, .int .u8 e] w fun e' w' => e' = .returned (.tuple #[.int .u64 (dnN b e), .int .u64 (upN t e)]) ∧ ∃ m, w' = w.drewN m := by
  have hp := pow_le_21 he
  have h0 := pow_pos2 e
  have hd1 := dn_le b e
  have hd3 := up_lt t e
  have hpw : IntKind.u64.wrap ((2 : Int) ^ e) = ((2 ^ e : Nat) : Int) := by
    rw [IntKind.wrap_u64, show ((2 : Int) ^ e) = ((2 ^ e : Nat) : Int) by simp]
    generalize 2 ^ e = z at hp
    omega
  unfold dnN at hd1 ⊢
  unfold upN at hd3 ⊢
  obtain ⟨U, hU⟩ : ∃ U, 2 ^ e = U := ⟨_, rfl⟩
  rw [hU] at hp h0 hpw hd1 hd3 ⊢
  obtain ⟨x, hx⟩ : ∃ x, b / U = x := ⟨_, rfl⟩
  obtain ⟨y, hy⟩ : ∃ y, (t + (U - 1)) / U = y := ⟨_, rfl⟩
  rw [hx] at hd1 ⊢
  rw [hy] at hd3 ⊢
  obtain ⟨d, hd⟩ : ∃ d, x * U = d := ⟨_, rfl⟩
  obtain ⟨u, hu⟩ : ∃ u, y * U = u := ⟨_, rfl⟩
  rw [hd] at hd1 ⊢
  rw [hu] at hd3 ⊢
  have r1 : (b : Int) / (U : Int) = (x : Int) := by rw [← hx]; simp
  have r2 : (t : Int) + U - 1 = ((t + (U - 1) : Nat) : Int) := by omega
  have r3 : IntKind.u64.wrap ((t : Int) + U) = (t : Int) + U := by rw [IntKind.wrap_u64]; omega
  have r4 : IntKind.u64.wrap ((t : Int) + U - 1) = ((t + (U - 1) : Nat) : Int) := by rw [IntKind.wrap_u64]; omega
  obtain ⟨s, hs⟩ : ∃ s, t + (U - 1) = s := ⟨_, rfl⟩
  rw [hs] at r2 r4 hy
  have r5 : (s : Int) / (U : Int) = (y : Int) := by rw [← hy]; simp
  have r6 : (x : Int) * (U : Int) = (d : Int) := by rw [← hd]; simp
  have r7 : (y : Int) * (U : Int) = (u : Int) := by rw [← hu]; simp
  have r8 : IntKind.u64.wrap (d : Int) = (d : Int) := by rw [IntKind.wrap_u64]; omega
  have r9 : IntKind.u64.wrap (u : Int) = (u : Int) := by rw [IntKind.wrap_u64]; omega
  have hne : ((U : Int) == 0) = false := by simp; omega
  have hxl : x ≤ 4294967295 := by rw [← hx]; exact Nat.le_trans (Nat.div_le_self _ _) (by omega)
  have hyl : y ≤ 4297064448 := by rw [← hy]; exact Nat.le_trans (Nat.div_le_self _ _) (by omega)
  clear hx hy hd hu hU hs
  go_enter Try.func68, Try.ntmps68
  go_wp2
  go_quiet (fail)
  go_wp2
  go_ret2
  exact ⟨rfl, _, rfl⟩

theorem expo_here {b t k : Nat} (hk : k ≤ 21) (hE : expoN b t = expoFrom b t (21 - k) k) (hf : fitsN b t k = true) : expoN b t = k := by
  rw [hE]
  rcases Nat.lt_or_ge k 21 with h | h
  · rw [show 21 - k = (20 - k) + 1 by omega, expoFrom, if_pos hf]
  · rw [show 21 - k = 0 by omega]; rfl

theorem rexponent_any (b t : Nat) (w : World) (hb : b < 4294967296) (hbt : b ≤ t) (ht : t ≤ 4294967296) :
    Calls Try.prog 67 #[.int .u32 b, .int .u64 t] w fun e' w' => e' = .returned (.int .u8 (expoN b t)) ∧ ∃ m, w' = w.drewN m := by
  go_enter Try.func67, Try.ntmps67
  go_wp2
  go_loopw [5] (fun i wr => ∃ k m : Nat, k ≤ 21 ∧ i = .int .u8 k ∧ Hid (expoN b t = expoFrom b t (21 - k) k) ∧ wr = w.drewN m) (fun i _ => (21 - intOf i).toNat)
  case atStart => exact ⟨0, 0, by omega, rfl, rfl, rfl⟩
  case round =>
    obtain ⟨k, m, hk, rfl, HE, rfl⟩ := hrel
    have hd1 := dn_le b k
    have hd2 := up_ge t k
    have hd3 := up_lt t k
    have hp := pow_le_21 hk
    have hle : dnN b k ≤ upN t k := by omega
    have hul : upN t k ≤ 4294967296 + 2097152 := by omega
    have hpw : IntKind.u64.wrap ((2048 : Int) * 2 ^ k) = ((2048 * 2 ^ k : Nat) : Int) := by
      rw [IntKind.wrap_u64, show ((2 : Int) ^ k) = ((2 ^ k : Nat) : Int) by simp]
      generalize 2 ^ k = z at hp
      omega
    obtain ⟨p, hpp⟩ : ∃ p, 2048 * 2 ^ k = p := ⟨_, rfl⟩
    obtain ⟨d, hd⟩ : ∃ d, dnN b k = d := ⟨_, rfl⟩
    obtain ⟨u, hu⟩ : ∃ u, upN t k = u := ⟨_, rfl⟩
    have hra := fun W => rrounded_any b t k W hb ht hk
    have HF : Hid (fitsN b t k = decide (u - d ≤ p)) := by show _ = _; unfold fitsN; rw [hpp, hd, hu]
    rw [hd, hu] at hra hle
    rw [hu] at hul
    rw [hpp] at hpw
    have HRA := hide hra
    clear hra hpp hd hu hd1 hd2 hd3 hp
    by_cases hf : (u : Int) - d ≤ p
    · go_wp2_with (go_at_call 68; refine (HRA.out _).mono ?_; rintro e' w' ⟨rfl, m2, rfl⟩)
      go_ret
      have hft : fitsN b t k = true := by rw [HF.out]; simp; omega
      exact ⟨ret_int (by rw [expo_here hk HE.out hft]), _, rfl⟩
    · have hft : fitsN b t k = false := by rw [HF.out]; simp; omega
      have h21 : k < 21 := by
        rcases Nat.lt_or_ge k 21 with h | h
        · exact h
        · obtain rfl : k = 21 := by omega
          rw [fits_21 ht] at hft; cases hft
      have HT : Hid (expoN b t = expoFrom b t (21 - (k + 1)) (k + 1)) := by
        show _ = _
        rw [HE.out, show 21 - k = (21 - (k + 1)) + 1 by omega, expoFrom, hft]; rfl
      clear hft
      go_wp2_with (go_at_call 68; refine (HRA.out _).mono ?_; rintro e' w' ⟨rfl, m2, rfl⟩)
      go_roundw
      case rel => exact ⟨k + 1, _, by omega, by go_num, HT, rfl⟩
      case measure => simp [intOf]; omega

theorem rencode_any (b t : Nat) (w : World) (hb : b < 4294967296) (ht : t < 18446744073709551616) :
    Calls Try.prog 58 #[.int .u32 b, .int .u64 t] w fun e' w' => e' = .returned (.tuple #[.int .u8 (encE b t), .int .u16 (encB b t), .int .u16 (encT b t), .bool (encX b t), .bool (rightN b t)]) ∧ ∃ m, w' = w.drewN m := by
  by_cases hr : rightN b t = true
  · obtain ⟨h1, h2⟩ := rightN_true hr
    unfold encE encB encT encX
    rw [hr, if_pos rfl, if_pos rfl, if_pos rfl]
    have hex := fun W => rexponent_any b t W hb h1 h2
    have hk := expo_le b t
    have hra := fun W => rrounded_any b t (expoN b t) W hb h2 hk
    obtain ⟨k, hkk⟩ : ∃ k, expoN b t = k := ⟨_, rfl⟩
    rw [hkk] at hk hex hra ⊢
    have hd1 := dn_le b k
    have hd3 := up_lt t k
    have hp := pow_le_21 hk
    have h0 := pow_pos2 k
    have hpw : IntKind.u64.wrap ((2 : Int) ^ k) = ((2 ^ k : Nat) : Int) := by
      rw [IntKind.wrap_u64, show ((2 : Int) ^ k) = ((2 ^ k : Nat) : Int) by simp]
      generalize 2 ^ k = z at hp
      omega
    obtain ⟨x, hx⟩ : ∃ x, b / 2 ^ k = x := ⟨_, rfl⟩
    have hdx := dn_div b k
    rw [hx] at hdx ⊢
    obtain ⟨d, hd⟩ : ∃ d, dnN b k = d := ⟨_, rfl⟩
    obtain ⟨u, hu⟩ : ∃ u, upN t k = u := ⟨_, rfl⟩
    rw [hd] at hdx hd1 hra ⊢
    rw [hu] at hd3 hra ⊢
    obtain ⟨y, hy⟩ : ∃ y, u / 2 ^ k = y := ⟨_, rfl⟩
    rw [hy]
    obtain ⟨U, hU⟩ : ∃ U, 2 ^ k = U := ⟨_, rfl⟩
    rw [hU] at hp h0 hpw hdx hy hx hd3
    have hxl : x < 4294967296 := by rw [← hx]; exact Nat.lt_of_le_of_lt (Nat.div_le_self _ _) hb
    have hyl : y ≤ 4297064448 := by rw [← hy]; exact Nat.le_trans (Nat.div_le_self _ _) (by omega)
    have i1 : (d : Int) / (U : Int) = (x : Int) := by rw [← hdx]; simp
    have i2 : (u : Int) / (U : Int) = (y : Int) := by rw [← hy]; simp
    have hne : ((U : Int) == 0) = false := by simp; omega
    obtain ⟨xm, hxm⟩ : ∃ m, x % 4096 = m := ⟨_, rfl⟩
    obtain ⟨ym, hym⟩ : ∃ m, y % 4096 = m := ⟨_, rfl⟩
    have hxml : xm < 4096 := by omega
    have hyml : ym < 4096 := by omega
    have i3 : (x : Int) % 4096 = (xm : Int) := by rw [← hxm]; simp
    have i4 : (y : Int) % 4096 = (ym : Int) := by rw [← hym]; simp
    rw [hxm, hym]
    have HX := hide hex
    have HRA := hide hra
    clear hkk hx hdx hd hu hy hxm hym hd1 hd3 hex hra hr hU
    have g1 : decide ((t : Int) < b) = false := by simp; omega
    have g2 : decide ((4294967296 : Int) < t) = false := by simp; omega
    by_cases c1 : d = b
    · have d1 : ((d : Int) == b) = true := by rw [c1]; simp
      have C1 := hide c1
      clear c1
      go_enter Try.func58, Try.ntmps58
      go_wp2_with (first
        | (go_at_call 67; refine (HX.out _).mono ?_; rintro e' w' ⟨rfl, m1, rfl⟩)
        | (go_at_call 68; refine (HRA.out _).mono ?_; rintro e' w' ⟨rfl, m2, rfl⟩))
      go_quiet (fail)
      go_wp2
      refine bodyPost_ret (results_tmp5 rfl _ _ _) rfl ⟨?_, _, World.drewN_drewN _ _ _⟩
      have c := C1.out
      simp only [c, decide_true, Bool.true_and]
      exact ret5_bool (beq_cast u t)
    · have d1 : ((d : Int) == b) = false := by simp; omega
      have C1 := hide c1
      clear c1
      go_enter Try.func58, Try.ntmps58
      go_wp2_with (first
        | (go_at_call 67; refine (HX.out _).mono ?_; rintro e' w' ⟨rfl, m1, rfl⟩)
        | (go_at_call 68; refine (HRA.out _).mono ?_; rintro e' w' ⟨rfl, m2, rfl⟩))
      go_quiet (fail)
      go_wp2
      refine bodyPost_ret (results_tmp5 rfl _ _ _) rfl ⟨?_, _, World.drewN_drewN _ _ _⟩
      have c := C1.out
      simp only [c, decide_false, Bool.and_false, Bool.false_and]
      rfl
  · have hr' : rightN b t = false := by simpa using hr
    unfold encE encB encT encX
    rw [hr', if_neg (by simp), if_neg (by simp), if_neg (by simp)]
    have hcase : (t : Int) < b ∨ ((b : Int) ≤ t ∧ (4294967296 : Int) < t) := by
      simp only [rightN, Bool.and_eq_false_iff, decide_eq_false_iff_not] at hr'; omega
    clear hr hr'
    rcases hcase with h1 | ⟨h1, h2⟩
    · go_enter Try.func58, Try.ntmps58
      go_wp2
      exact bodyPost_ret (results_tmp5 rfl _ _ _) rfl ⟨rfl, 0, rfl⟩
    · have g1 : decide ((t : Int) < b) = false := by simp; omega
      go_enter Try.func58, Try.ntmps58
      go_wp2
      exact bodyPost_ret (results_tmp5 rfl _ _ _) rfl ⟨rfl, 0, rfl⟩

theorem fits_zero (s k : Nat) : fitsN 0 s k = decide (upN s k ≤ 2048 * 2 ^ k) := by
  unfold fitsN
  have : dnN 0 k = 0 := by unfold dnN; simp
  rw [this, Nat.sub_zero]

theorem rpad_any (s : Nat) (w : World) (hs : s < 4294967296) :
    Calls Try.prog 66 #[.int .u32 s] w fun e' w' => e' = .returned (.tuple #[.int .u32 (padN s), .int .u32 (padA s)]) ∧ ∃ m, w' = w.drewN m := by
  go_enter Try.func66, Try.ntmps66
  go_wp2
  go_loopw [4] (fun i wr => ∃ k m : Nat, k ≤ 21 ∧ i = .int .u8 k ∧ Hid (expoN 0 s = expoFrom 0 s (21 - k) k) ∧ wr = w.drewN m) (fun i _ => (21 - intOf i).toNat)
  case atStart => exact ⟨0, 0, by omega, rfl, rfl, rfl⟩
  case round =>
    obtain ⟨k, m, hk, rfl, HE, rfl⟩ := hrel
    have hd3 := up_whole (t := s) hk (by omega)
    have hp := pow_le_21 hk
    have hpw : IntKind.u64.wrap ((2048 : Int) * 2 ^ k) = ((2048 * 2 ^ k : Nat) : Int) := by
      rw [IntKind.wrap_u64, show ((2 : Int) ^ k) = ((2 ^ k : Nat) : Int) by simp]
      generalize 2 ^ k = z at hp
      omega
    have hpw2 : IntKind.u32.wrap ((2 : Int) ^ k) = ((2 ^ k : Nat) : Int) := by
      rw [IntKind.wrap_u32, show ((2 : Int) ^ k) = ((2 ^ k : Nat) : Int) by simp]
      generalize 2 ^ k = z at hp
      omega
    have hz := fits_zero s k
    obtain ⟨p, hpp⟩ : ∃ p, 2048 * 2 ^ k = p := ⟨_, rfl⟩
    obtain ⟨U, hU⟩ : ∃ U, 2 ^ k = U := ⟨_, rfl⟩
    obtain ⟨u, hu⟩ : ∃ u, upN s k = u := ⟨_, rfl⟩
    have hra := fun W => rrounded_any 0 s k W (by omega) (by omega) hk
    rw [hpp, hu] at hz
    rw [hu] at hra hd3
    rw [show dnN 0 k = 0 by unfold dnN; simp] at hra
    rw [hpp] at hpw
    rw [hU] at hpw2
    have HRA := hide hra
    have HZ := hide hz
    have HU := hide hU
    have HU2 := hide hu
    clear hra hpp hu hU hz hp
    by_cases hf : (u : Int) ≤ p
    · have hft : fitsN 0 s k = true := by rw [HZ.out]; simp; omega
      have hEk := expo_here hk HE.out hft
      have HK : Hid (padN s = (if u = 4294967296 then 0 else u) ∧ padA s = (if u = 4294967296 then 0 else U)) := by
        show _ ∧ _
        unfold padN padA; rw [hEk, HU2.out, HU.out]; exact ⟨rfl, rfl⟩
      clear hft hEk
      by_cases c1 : u = 4294967296
      · have d1 : ((u : Int) == 4294967296) = true := by rw [c1]; rfl
        have C1 := hide c1
        clear c1
        go_wp2_with (go_at_call 68; refine (HRA.out _).mono ?_; rintro e' w' ⟨rfl, m2, rfl⟩)
        go_ret2
        refine ⟨ret2_both ?_ ?_, _, rfl⟩
        · rw [HK.out.1, if_pos C1.out]; rfl
        · rw [HK.out.2, if_pos C1.out]; rfl
      · have d1 : ((u : Int) == 4294967296) = false := by simp; omega
        have d2 : (u : Int) < 4294967296 := by omega
        have C1 := hide c1
        clear c1
        go_wp2_with (go_at_call 68; refine (HRA.out _).mono ?_; rintro e' w' ⟨rfl, m2, rfl⟩)
        go_ret2
        refine ⟨ret2_both ?_ ?_, _, rfl⟩
        · rw [HK.out.1, if_neg C1.out]
        · rw [HK.out.2, if_neg C1.out]
    · have hft : fitsN 0 s k = false := by rw [HZ.out]; simp; omega
      have h21 : k < 21 := by
        rcases Nat.lt_or_ge k 21 with h | h
        · exact h
        · obtain rfl : k = 21 := by omega
          rw [fits_21 (by omega)] at hft; cases hft
      have HT : Hid (expoN 0 s = expoFrom 0 s (21 - (k + 1)) (k + 1)) := by
        show _ = _
        rw [HE.out, show 21 - k = (21 - (k + 1)) + 1 by omega, expoFrom, hft]; rfl
      clear hft
      go_wp2_with (go_at_call 68; refine (HRA.out _).mono ?_; rintro e' w' ⟨rfl, m2, rfl⟩)
      go_roundw
      case rel => exact ⟨k + 1, _, by omega, by go_num, HT, rfl⟩
      case measure => simp [intOf]; omega
end Go.Proofs.Ytdljpnebpoaeiaa
