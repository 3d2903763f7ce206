/-
  Walks of layer 3 (bounds): rounded, exponent, right, Encode, Round, Pad.
-/
import Derived.Test.YtdljpnebpoaeiaaBndA
namespace Go.Proofs.Ytdljpnebpoaeiaa
open Go.RowKit

theorem ret5_bool {a b c d : Value} {x y : Bool} (h : x = y) : Ending.returned (.tuple #[a, b, c, .bool x, d]) = .returned (.tuple #[a, b, c, .bool y, d]) := by rw [h]
theorem beq_cast (u t : Nat) : ((u : Int) == (t : Int)) = decide (u = t) := by
  rw [Bool.eq_iff_iff]; simp; omega
theorem results_tmp5 {fn : Func} {t u v x y : Tmp} (h : fn.results = #[.tmp t, .tmp u, .tmp v, .tmp x, .tmp y]) (tmps : Array Value) (P : Program) (w : World) :
    (results fn tmps).run P w = .ok (.tuple #[tmps.getD t undef, tmps.getD u undef, tmps.getD v undef, tmps.getD x undef, tmps.getD y undef]) w := by simp [results, h]
theorem rounded_any (b t e : Nat) (w : World) (hb : b < 4294967296) (ht : t ≤ 4294967296) (he : e ≤ 21) :
    Calls Try.prog 55 #[.int .u32 b, .int .u64 t, .int .i64 e] w fun e' w' => e' = .returned (.tuple #[.int .u64 (dnN b e), .int .u64 (upN t e)]) ∧ w = w' := by
  have hp := pow_le_21 he
  have h0 := pow_pos2 e
  have hlw := low_wrap he
  have a1 := andNot_dn b e (by omega) he
  have a2 := andNot_dn (t + (2 ^ e - 1)) e (by omega) he
  obtain ⟨lo, hlo⟩ : ∃ lo, 2 ^ e - 1 = lo := ⟨_, rfl⟩
  have hlb : lo ≤ 2097151 := by omega
  unfold dnN upN
  rw [hlo] at hlw a1 a2 ⊢
  have A1 := hide a1
  have A2 := hide a2
  clear a1 a2 hlo hp h0
  go_enter Try.func55, Try.ntmps55
  go_wp2
  go_ret2
  exact ⟨ret2_both A1.out A2.out, rfl⟩

theorem right_no (b t : Nat) (w : World) (hb : b < 4294967296) (ht : t < 18446744073709551616) (h : rightN b t = false) :
    Calls Try.prog 53 #[.int .u32 b, .int .u64 t] w fun e' w' => e' = .returned (.bool false) ∧ w = w' := by
  have hcase : (t : Int) < b ∨ ((b : Int) ≤ t ∧ (4294967296 : Int) < t) := by
    simp only [rightN, Bool.and_eq_false_iff, decide_eq_false_iff_not] at h; omega
  rcases hcase with h1 | ⟨h1, h2⟩
  · have d1 : decide ((b : Int) ≤ t) = false := by simp; omega
    go_enter Try.func53, Try.ntmps53
    go_wp2
    go_ret
    exact ⟨rfl, rfl⟩
  · have d1 : decide ((t : Int) ≤ 4294967296) = false := by simp; omega
    go_enter Try.func53, Try.ntmps53
    go_wp2
    go_ret
    exact ⟨rfl, rfl⟩
theorem right_yes (b t : Nat) (w : World) (h1 : b ≤ t) (h2 : t ≤ 4294967296) :
    Calls Try.prog 53 #[.int .u32 b, .int .u64 t] w fun e' w' => e' = .returned (.bool true) ∧ w = w' := by
  have d1 : (b : Int) ≤ t := by omega
  have d2 : (t : Int) ≤ 4294967296 := by omega
  have d3 : decide ((t : Int) ≤ 4294967296) = true := by simpa using d2
  go_enter Try.func53, Try.ntmps53
  go_wp2
  go_ret
  exact ⟨by first | rfl | simp [d2], rfl⟩

theorem exponent_any (b t : Nat) (w : World) (hb : b < 4294967296) (hbt : b ≤ t) (ht : t ≤ 4294967296) :
    Calls Try.prog 54 #[.int .u32 b, .int .u64 t] w fun e' w' => e' = .returned (.int .i64 (expoN b t)) ∧ w = w' := by
  go_enter Try.func54, Try.ntmps54
  go_wp2
  go_loop [8] (fun i => ∃ k : Nat, k ≤ 21 ∧ i = .int .i64 k ∧ Hid (expoN b t = expoFrom b t (21 - k) k)) (fun i => (21 - intOf i).toNat)
  case atStart => exact ⟨0, by omega, rfl, rfl⟩
  case round =>
    obtain ⟨k, hk, rfl, HE⟩ := hrel
    by_cases h0 : k < 21
    · have hd1 := dn_le b k
      have hd2 := up_ge t k
      have hd3 := up_lt t k
      have hp := pow_le_21 hk
      have hle : dnN b k ≤ upN t k := by omega
      have hul : upN t k ≤ 4294967296 + 2097152 := by omega
      have hpw : IntKind.u64.wrap ((2048 : Int) * 2 ^ k) = ((2048 * 2 ^ k : Nat) : Int) := by
        rw [IntKind.wrap_u64, show ((2 : Int) ^ k) = ((2 ^ k : Nat) : Int) by simp]; omega
      obtain ⟨p, hpp⟩ : ∃ p, 2048 * 2 ^ k = p := ⟨_, rfl⟩
      obtain ⟨d, hd⟩ : ∃ d, dnN b k = d := ⟨_, rfl⟩
      obtain ⟨u, hu⟩ : ∃ u, upN t k = u := ⟨_, rfl⟩
      have hra := fun W => rounded_any b t k W hb ht hk
      have HF : Hid (fitsN b t k = decide (u - d ≤ p)) := by show _ = _; unfold fitsN; rw [hpp, hd, hu]
      rw [hd, hu] at hra hle
      rw [hu] at hul
      rw [hpp] at hpw
      have HRA := hide hra
      clear hra hpp hd hu hd1 hd2 hd3 hp
      by_cases hf : (u : Int) - d ≤ p
      · go_wp2_with (go_at_call 55; refine (HRA.out _).mono ?_; rintro e' w' ⟨rfl, rfl⟩)
        go_ret
        refine ⟨ret_int ?_, rfl⟩
        have hft : fitsN b t k = true := by rw [HF.out]; simp; omega
        rw [HE.out, show 21 - k = (20 - k) + 1 by omega, expoFrom, if_pos hft]
      · go_wp2_with (go_at_call 55; refine (HRA.out _).mono ?_; rintro e' w' ⟨rfl, rfl⟩)
        have hft : fitsN b t k = false := by rw [HF.out]; simp; omega
        have HT : Hid (expoN b t = expoFrom b t (21 - (k + 1)) (k + 1)) := by
          show _ = _
          rw [HE.out, show 21 - k = (21 - (k + 1)) + 1 by omega, expoFrom, hft]; rfl
        go_round
        case rel => exact ⟨k + 1, by omega, by go_num, HT⟩
        case measure => simp [intOf]; omega
    · go_wp2
      go_ret
      obtain rfl : k = 21 := by omega
      exact ⟨ret_int (by rw [HE.out]; rfl), rfl⟩

/-- What Encode answers. -/
def encE (b t : Nat) : Nat := if rightN b t then expoN b t else 0
def encB (b t : Nat) : Nat := if rightN b t then b / 2 ^ expoN b t % 4096 else 0
def encT (b t : Nat) : Nat := if rightN b t then upN t (expoN b t) / 2 ^ expoN b t % 4096 else 0
def encX (b t : Nat) : Bool := rightN b t && decide (dnN b (expoN b t) = b) && decide (upN t (expoN b t) = t)
theorem rightN_true {b t : Nat} (h : rightN b t = true) : b ≤ t ∧ t ≤ 4294967296 := by
  simpa [rightN] using h

theorem encode_any (b t : Nat) (w : World) (hb : b < 4294967296) (ht : t < 18446744073709551616) :
    Calls Try.prog 28 #[.int .u32 b, .int .u64 t] w fun e' w' => e' = .returned (.tuple #[.int .u8 (encE b t), .int .u16 (encB b t), .int .u16 (encT b t), .bool (encX b t), .bool (rightN b t)]) ∧ ∃ m, w' = w.drewN m := by
  by_cases hr : rightN b t = true
  · obtain ⟨h1, h2⟩ := rightN_true hr
    unfold encE encB encT encX
    rw [hr, if_pos rfl, if_pos rfl, if_pos rfl]
    have hex := fun W => exponent_any b t W hb h1 h2
    have hk := expo_le b t
    have hra := fun W => rounded_any b t (expoN b t) W hb h2 hk
    obtain ⟨k, hkk⟩ : ∃ k, expoN b t = k := ⟨_, rfl⟩
    rw [hkk] at hk hex hra ⊢
    have hd1 := dn_le b k
    have hd3 := up_lt t k
    have hp := pow_le_21 hk
    obtain ⟨x, hx⟩ : ∃ x, b / 2 ^ k = x := ⟨_, rfl⟩
    have hdx := dn_div b k
    rw [hx] at hdx ⊢
    obtain ⟨d, hd⟩ : ∃ d, dnN b k = d := ⟨_, rfl⟩
    obtain ⟨u, hu⟩ : ∃ u, upN t k = u := ⟨_, rfl⟩
    rw [hd] at hdx hd1 hra ⊢
    rw [hu] at hd3 hra ⊢
    obtain ⟨y, hy⟩ : ∃ y, u / 2 ^ k = y := ⟨_, rfl⟩
    rw [hy]
    have hxl : x < 4294967296 := by rw [← hx]; exact Nat.lt_of_le_of_lt (Nat.div_le_self _ _) hb
    have hyl : y ≤ 4297064448 := by rw [← hy]; exact Nat.le_trans (Nat.div_le_self _ _) (by omega)
    have i1 : (d : Int) / 2 ^ k = (x : Int) := by rw [← hdx]; simp
    have i2 : (u : Int) / 2 ^ k = (y : Int) := by rw [← hy]; simp
    have i3 := u64_mask12 x (by omega)
    have i4 := u64_mask12 y (by omega)
    obtain ⟨xm, hxm⟩ : ∃ m, x % 4096 = m := ⟨_, rfl⟩
    obtain ⟨ym, hym⟩ : ∃ m, y % 4096 = m := ⟨_, rfl⟩
    have hxml : xm < 4096 := by omega
    have hyml : ym < 4096 := by omega
    rw [hxm] at i3 ⊢
    rw [hym] at i4 ⊢
    have HX := hide hex
    have HRA := hide hra
    clear hkk hx hdx hd hu hy hxl hyl hxm hym hp hd1 hd3 hex hra hr
    by_cases c1 : d = b
    · have d1 : ((d : Int) == b) = true := by rw [c1]; simp
      have C1 := hide c1
      clear c1
      go_enter Try.func28, Try.ntmps28
      go_wp2_with (first
        | (go_at_call 53; refine (right_yes b t _ h1 h2).mono ?_; rintro e' w' ⟨rfl, rfl⟩)
        | (go_at_call 54; refine (HX.out _).mono ?_; rintro e' w' ⟨rfl, rfl⟩)
        | (go_at_call 55; refine (HRA.out _).mono ?_; rintro e' w' ⟨rfl, rfl⟩))
      go_quiet (fail)
      go_wp2
      refine bodyPost_ret (results_tmp5 rfl _ _ _) rfl ⟨?_, _, rfl⟩
      have c := C1.out
      simp only [c, decide_true, Bool.true_and]
      exact ret5_bool (beq_cast u t)
    · have d1 : ((d : Int) == b) = false := by simp; omega
      have C1 := hide c1
      clear c1
      go_enter Try.func28, Try.ntmps28
      go_wp2_with (first
        | (go_at_call 53; refine (right_yes b t _ h1 h2).mono ?_; rintro e' w' ⟨rfl, rfl⟩)
        | (go_at_call 54; refine (HX.out _).mono ?_; rintro e' w' ⟨rfl, rfl⟩)
        | (go_at_call 55; refine (HRA.out _).mono ?_; rintro e' w' ⟨rfl, rfl⟩))
      go_quiet (fail)
      go_wp2
      refine bodyPost_ret (results_tmp5 rfl _ _ _) rfl ⟨?_, _, rfl⟩
      have c := C1.out
      simp only [c, decide_false, Bool.and_false, Bool.false_and]
      rfl
  · have hr' : rightN b t = false := by simpa using hr
    unfold encE encB encT encX
    rw [hr', if_neg (by simp), if_neg (by simp), if_neg (by simp)]
    have HR := hide hr'
    clear hr hr'
    go_enter Try.func28, Try.ntmps28
    go_wp2_with (go_at_call 53; refine (right_no b t _ hb ht HR.out).mono ?_; rintro e' w' ⟨rfl, rfl⟩)
    refine bodyPost_ret (results_tmp5 rfl _ _ _) rfl ⟨rfl, 0, rfl⟩

/-- What Pad answers. -/
def padN (s : Nat) : Nat := if upN s (expoN 0 s) = 4294967296 then 0 else upN s (expoN 0 s)
def padA (s : Nat) : Nat := if upN s (expoN 0 s) = 4294967296 then 0 else 2 ^ expoN 0 s
theorem pad_any (s : Nat) (w : World) (hs : s < 4294967296) :
    Calls Try.prog 65 #[.int .u32 s] w fun e' w' => e' = .returned (.tuple #[.int .u32 (padN s), .int .u32 (padA s)]) ∧ ∃ m, w' = w.drewN m := by
  have hex := fun W => exponent_any 0 s W (by omega) (by omega) (by omega)
  have hk := expo_le 0 s
  have hra := fun W => rounded_any 0 s (expoN 0 s) W (by omega) (by omega) hk
  have hd0 : dnN 0 (expoN 0 s) = 0 := by unfold dnN; simp
  unfold padN padA
  obtain ⟨k, hkk⟩ : ∃ k, expoN 0 s = k := ⟨_, rfl⟩
  rw [hkk] at hk hex hra hd0 ⊢
  have hw := up_whole (t := s) hk (by omega)
  have hp := pow_le_21 hk
  obtain ⟨u, hu⟩ : ∃ u, upN s k = u := ⟨_, rfl⟩
  rw [hd0] at hra
  rw [hu] at hra hw ⊢
  have hpw : IntKind.u32.wrap ((2 : Int) ^ k) = ((2 ^ k : Nat) : Int) := by
    rw [IntKind.wrap_u32, show ((2 : Int) ^ k) = ((2 ^ k : Nat) : Int) by simp]
    generalize 2 ^ k = z at hp
    omega
  obtain ⟨p, hpp⟩ : ∃ p, 2 ^ k = p := ⟨_, rfl⟩
  rw [hpp] at hpw ⊢
  have HX := hide hex
  have HRA := hide hra
  clear hkk hex hra hu hd0 hpp hp
  by_cases c1 : u = 4294967296
  · rw [if_pos c1, if_pos c1]
    have d1 : ((u : Int) == 4294967296) = true := by rw [c1]; rfl
    clear c1
    go_enter Try.func65, Try.ntmps65
    go_wp2_with (first
        | (go_at_call 54; refine (HX.out _).mono ?_; rintro e' w' ⟨rfl, rfl⟩)
        | (go_at_call 55; refine (HRA.out _).mono ?_; rintro e' w' ⟨rfl, rfl⟩))
    go_ret2
    exact ⟨rfl, 0, rfl⟩
  · rw [if_neg c1, if_neg c1]
    have d1 : ((u : Int) == 4294967296) = false := by simp; omega
    have d2 : (u : Int) < 4294967296 := by omega
    clear c1
    go_enter Try.func65, Try.ntmps65
    go_wp2_with (first
        | (go_at_call 54; refine (HX.out _).mono ?_; rintro e' w' ⟨rfl, rfl⟩)
        | (go_at_call 55; refine (HRA.out _).mono ?_; rintro e' w' ⟨rfl, rfl⟩))
    go_quiet (fail)
    go_wp2
    go_ret2
    exact ⟨rfl, _, rfl⟩
end Go.Proofs.Ytdljpnebpoaeiaa
