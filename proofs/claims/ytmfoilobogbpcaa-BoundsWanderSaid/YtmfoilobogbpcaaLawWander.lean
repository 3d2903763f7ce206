/-
  BoundsWander: a cursor may go 1024 times 2^e below the rounded base, and 3071 times 2^e and a little above it, and the bounds stay. No condition.
-/
import Derived.Test.YtmfoilobogbpcaaBndBring
import Derived.Test.YtmfoilobogbpcaaBndMath
import Derived.Test.YtmfoilobogbpcaaFrame
namespace Go.Proofs.Ytmfoilobogbpcaa
open Go.ChangeShapes Go.WideShapes Go.ChangeAt Go.RowKit
open Go.ChangeMaps (open_string shut_string)

set_option maxHeartbeats 1000000 in
theorem bwander_walk (a b to_ : Nat) (w : World) (ha : a < 4294967296) (hb : b < 4294967296) (hto : to_ < 4294967296) :
    Calls Try.prog 11 #[.int .u32 a, .int .u32 b, .int .u32 to_] w fun e' w' => e' = .returned (.bool true) ∧ Below w.heap.size w w' := by
  obtain ⟨x, hx⟩ : ∃ x, min a b = x := ⟨_, rfl⟩
  obtain ⟨y, hy⟩ : ∃ y, max a b + 1 = y := ⟨_, rfl⟩
  have hbr := fun W => bring_is a b x y W ha hb hx hy
  have hxl : x < 4294967296 := by omega
  have hxy : x < y := by omega
  have hyl : y ≤ 4294967296 := by omega
  have hr : rightN x y = true := by simp [rightN, hyl]; omega
  have hk := expo_le x y
  have hd1 := dn_le x (expoN x y)
  have hdl := dn_lt x (expoN x y)
  have hp := pow_le_21 hk
  have h0 := pow_pos2 (expoN x y)
  have hd := fun W => encode_any x y W hxl (by omega)
  have hrd := fun W => round_any x y W hxl (by omega)
  have hwd := fun c => enc_wander (b := x) (t := y) (c := c) hxl (by omega) hyl
  rw [hr, if_pos rfl, if_pos rfl] at hrd
  have hkE : encE x y = expoN x y := by unfold encE; rw [if_pos hr]
  have hkb : encE x y < 256 := by rw [hkE]; omega
  have hbb : encB x y < 65536 := by unfold encB; rw [if_pos hr]; omega
  have hbt : encT x y < 65536 := by unfold encT; rw [if_pos hr]; omega
  have hkp := fun c n W hc hn => keeps_any (encE x y) (encB x y) (encT x y) c n W hkb hbb hbt hc hn
  have hself := hwd x (by omega) (by omega)
  rw [hr] at hd
  have hkk : ∀ c : Nat, c < 4294967296 → dnN x (expoN x y) ≤ c + 1024 * 2 ^ expoN x y → c < dnN x (expoN x y) + 3072 * 2 ^ expoN x y → keepsN (encE x y) (encB x y) (encT x y) x c = true ∧ keepsN (encE x y) (encB x y) (encT x y) c x = true := by
    intro c _ h1 h2
    have hc := hwd c h1 h2
    unfold keepsN
    rw [hself.1, hself.2.1, hself.2.2, hc.1, hc.2.1, hc.2.2]
    simp
  rw [← hkE] at hkk hrd hd1 hdl hp h0 hk
  obtain ⟨k, hkn⟩ : ∃ k, encE x y = k := ⟨_, rfl⟩
  obtain ⟨m, hmn⟩ : ∃ k, encB x y = k := ⟨_, rfl⟩
  obtain ⟨n, hnn⟩ : ∃ k, encT x y = k := ⟨_, rfl⟩
  obtain ⟨ex, hexn⟩ : ∃ k, encX x y = k := ⟨_, rfl⟩
  rw [hkn, hmn, hnn] at hkk hkp
  rw [hkn, hmn, hnn, hexn] at hd
  rw [hkn] at hrd hd1 hdl hp h0 hk
  obtain ⟨D, hD⟩ : ∃ d, dnN x k = d := ⟨_, rfl⟩
  obtain ⟨u, hu⟩ : ∃ d, upN y k = d := ⟨_, rfl⟩
  rw [hD] at hkk hrd hd1 hdl
  rw [hu] at hrd
  obtain ⟨P1, hP1⟩ : ∃ p, 1024 * 2 ^ k = p := ⟨_, rfl⟩
  obtain ⟨P3, hP3⟩ : ∃ p, 3072 * 2 ^ k = p := ⟨_, rfl⟩
  have w1 : IntKind.u64.wrap ((1024 : Int) * 2 ^ k) = (P1 : Int) := by
    rw [IntKind.wrap_u64, show ((2 : Int) ^ k) = ((2 ^ k : Nat) : Int) by simp]
    generalize 2 ^ k = z at *
    omega
  have w3 : IntKind.u64.wrap ((3072 : Int) * 2 ^ k) = (P3 : Int) := by
    rw [IntKind.wrap_u64, show ((2 : Int) ^ k) = ((2 ^ k : Nat) : Int) by simp]
    generalize 2 ^ k = z at *
    omega
  rw [hP1, hP3] at hkk
  have hp1 : P1 ≤ 2147483648 := by omega
  have hp3 : P3 ≤ 6442450944 := by omega
  have hp30 : 0 < P3 := by omega
  obtain ⟨H, hH⟩ : ∃ H : Nat, (if (4294967296 : Int) < (D : Int) + P3 then 4294967296 else (D : Int) + P3) = (H : Int) ∧ H ≤ 4294967296 ∧ H ≤ D + P3 ∧ D < H := by
    by_cases h : (4294967296 : Int) < (D : Int) + P3
    · exact ⟨4294967296, by rw [if_pos h]; rfl, by omega, by omega, by omega⟩
    · exact ⟨D + P3, by rw [if_neg h]; omega, by omega, by omega, by omega⟩
  obtain ⟨hmin, hH1, hH2, hH3⟩ := hH
  have HBR := hide hbr
  have HD := hide hd
  have HRD := hide hrd
  have HKK := hide hkk
  have HKP := hide hkp
  clear hbr hd hrd hkk hkp hself hwd hkE hkn hmn hnn hexn hD hu hP1 hP3 hx hy hr hp h0
  obtain ⟨low, hlow⟩ : ∃ low : Nat, low ≤ D ∧ D ≤ low + P1 ∧ (((P1 : Int) < D ∧ (D : Int) - P1 = (low : Int)) ∨ ((D : Int) ≤ P1 ∧ low = 0)) := by
    by_cases h : (P1 : Int) < D
    · exact ⟨D - P1, by omega, by omega, .inl ⟨h, by omega⟩⟩
    · exact ⟨0, by omega, by omega, .inr ⟨by omega, rfl⟩⟩
  obtain ⟨hl1, hl2, hcase⟩ := hlow
  obtain ⟨R, hR⟩ : ∃ R : Nat, to_ % (H - low) = R := ⟨_, rfl⟩
  have hRl : R < H - low := by rw [← hR]; exact Nat.mod_lt _ (by omega)
  have hRi : (to_ : Int) % ((H : Int) - low) = (R : Int) := by rw [← hR, show (H : Int) - low = ((H - low : Nat) : Int) by omega]; simp
  obtain ⟨hk1, hk2⟩ := HKK.out (low + R) (by omega) (by omega) (by omega)
  have hA := fun W => HKP.out x (low + R) W (by omega) (by omega)
  have hB := fun W => HKP.out (low + R) x W (by omega) (by omega)
  rw [hk1] at hA
  rw [hk2] at hB
  have HA := hide hA
  have HB := hide hB
  clear hA hB hk1 hk2 hR
  have hec : ((low + R : Nat) : Int) = (low : Int) + R := by omega
  rw [hec] at HA HB
  rcases hcase with ⟨c1, c2⟩ | ⟨c1, rfl⟩
  · go_enter Try.func11, Try.ntmps11
    go_wp2_with fail
    refine (HBR.out _).mono ?_
    rintro e' w1 ⟨rfl, rfl⟩
    go_wp2_with fail
    refine (HD.out _).mono ?_
    rintro e' w2 ⟨rfl, m1, rfl⟩
    go_wp2_with fail
    refine (HRD.out _).mono ?_
    rintro e' w3 ⟨rfl, rfl⟩
    go_wp2_with fail
    refine (HA.out _).mono ?_
    rintro e' w4 ⟨rfl, hb4⟩
    have HB4 := hide hb4; clear hb4
    go_wp2_with fail
    refine (HB.out _).mono ?_
    rintro e' w5 ⟨rfl, hb5⟩
    have HB5 := hide hb5; clear hb5
    go_wp2_with fail
    refine (bworks_any _).mono ?_
    rintro e' w6 ⟨rfl, hb6⟩
    have HB6 := hide hb6; clear hb6
    go_wp2
    go_ret
    have k4 := below_of_drewN HB4.out
    exact ⟨rfl, (k4.trans (HB5.out.mono k4.size)).trans (HB6.out.mono (Nat.le_trans k4.size HB5.out.size))⟩
  · have hRi2 : (to_ : Int) % (H : Int) = (R : Int) := by rw [← hRi]; simp
    rw [show ((0 : Nat) : Int) + (R : Int) = (R : Int) by omega] at HA HB
    clear hRi
    go_enter Try.func11, Try.ntmps11
    go_wp2_with fail
    refine (HBR.out _).mono ?_
    rintro e' w1 ⟨rfl, rfl⟩
    go_wp2_with fail
    refine (HD.out _).mono ?_
    rintro e' w2 ⟨rfl, m1, rfl⟩
    go_wp2_with fail
    refine (HRD.out _).mono ?_
    rintro e' w3 ⟨rfl, rfl⟩
    go_wp2_with fail
    refine (HA.out _).mono ?_
    rintro e' w4 ⟨rfl, hb4⟩
    have HB4 := hide hb4; clear hb4
    go_wp2_with fail
    refine (HB.out _).mono ?_
    rintro e' w5 ⟨rfl, hb5⟩
    have HB5 := hide hb5; clear hb5
    go_wp2_with fail
    refine (bworks_any _).mono ?_
    rintro e' w6 ⟨rfl, hb6⟩
    have HB6 := hide hb6; clear hb6
    go_wp2
    go_ret
    have k4 := below_of_drewN HB4.out
    exact ⟨rfl, (k4.trans (HB5.out.mono k4.size)).trans (HB6.out.mono (Nat.le_trans k4.size HB5.out.size))⟩
theorem bwander_law : LawWalk 11 Try.f11 := by
  intro H enc W base args ds p hval hA
  rw [Try.params11] at hA hval
  obtain ⟨v0, vs0, d0, ds0, p0, q0, hargs, rfl, rfl, h0, r0⟩ := trodAll_cons hA
  obtain ⟨v1, vs1, d1, ds1, p1, q1, rfl, rfl, rfl, h1, r1⟩ := trodAll_cons r0
  obtain ⟨v2, vs2, d2, ds2, p2, q2, rfl, rfl, rfl, h2, r2⟩ := trodAll_cons r1
  obtain ⟨rfl, rfl, rfl⟩ := trodAll_nil r2
  obtain rfl : args = #[v0, v1, v2] := by cases args; simp_all
  obtain ⟨a0, rfl, rfl, rfl, w0⟩ := open_int Try.underlying25 (hval 0 _ v0 rfl rfl) h0
  have b0 := wf_u32 w0
  obtain ⟨a1, rfl, rfl, rfl, w1⟩ := open_int Try.underlying25 (hval 1 _ v1 rfl rfl) h1
  have b1 := wf_u32 w1
  obtain ⟨a2, rfl, rfl, rfl, w2⟩ := open_int Try.underlying25 (hval 2 _ v2 rfl rfl) h2
  have b2 := wf_u32 w2
  obtain ⟨a, rfl⟩ := Int.eq_ofNat_of_zero_le b0.1
  obtain ⟨b, rfl⟩ := Int.eq_ofNat_of_zero_le b1.1
  obtain ⟨c, rfl⟩ := Int.eq_ofNat_of_zero_le b2.1
  exact bwander_walk a b c W (by omega) (by omega) (by omega)
set_option maxRecDepth 100000 in
theorem boundsWander_proved : Rows.BoundsWanderSaid :=
  OpenClaim.holds_of_wide 11 Try.f11 rfl rfl rfl rfl rfl rfl rfl ⟨rfl, rfl, rfl, rfl, rfl⟩ rfl rfl rfl rfl rfl (by kernel_rfl) Try.func11 (by kernel_rfl)
    (of_decide_eq_true (by kernel_rfl)) (by unfold Func.isWrapper; first | (rw [if_pos (by decide +kernel)]; kernel_rfl) | (rw [if_neg (by decide +kernel)]; exact ⟨rfl, rfl⟩))
    (fun os started H enc _ => law_lifted 11 Try.f11 Rows.boundsWanderSpec Rows.boundsWanderRow.domain Try.func11 (by kernel_rfl) rfl rfl
      (fun H ds hd => by match ds, hd with | [d0, d1, d2], _ => exact ⟨rfl, rfl, rfl⟩) (by decide +kernel) bwander_law os started H enc
      (ChangeSpec.witness6 (enc := enc) (C := Try.checked) false ⟨#[], #[.int .u32 0, .int .u32 0, .int .u32 0], []⟩ 8 (by kernel_rfl) (by kernel_rfl) (by kernel_rfl) (by kernel_rfl)))
#print axioms boundsWander_proved
end Go.Proofs.Ytmfoilobogbpcaa
