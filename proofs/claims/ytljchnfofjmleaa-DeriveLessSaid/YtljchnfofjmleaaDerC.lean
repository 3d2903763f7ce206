/-
  Walks of layer 5: over, Seal, Open, set, Set, Exact, Build.
-/
import Derived.Test.YtljchnfofjmleaaDerB
namespace Go.Proofs.Ytljchnfofjmleaa
open Go.RowKit
attribute [local go_sem ↓] Go.wp_at_zero Go.wp_at_succ

/-- Is it an authority by a permission? -/
def overN (cC cP cY : Nat) (cV : Bool) (q x y : Nat) : Bool := freeN cY cV && (decide (cP &&& q ≠ 0) && (decide (1 ≤ cC) && (decide (cC ≤ 4095) && (decide (x ≤ cC) && decide (cC < y)))))
theorem bits_ne {p q : Nat} (hp : p < 65536) (hq : q < 65536) : (bits .and .u16 (p : Int) (q : Int) != 0) = decide (p &&& q ≠ 0) := by
  rw [u16_and_nat p q hp hq, Bool.eq_iff_iff]
  simp <;> omega

theorem over_any (cC cE cB cT cP cY cR : Nat) (cV : Bool) (q x y : Nat) (w : World) (cl : capB cC cE cB cT cP cY cR) (hq : q < 65536) (hx : (decN cE cB cT cC).1 = x) (hy : (decN cE cB cT cC).2 = y) :
    Calls Try.prog 50 #[.agg #[.int .u32 cC, .int .u8 cE, .int .u16 cB, .int .u16 cT, .int .u16 cP, .int .u16 cY, .int .u32 cR, .bool cV], .int .u16 q] w fun e w' => e = .returned (.bool (overN cC cP cY cV q x y)) ∧ Below w.heap.size w w' := by
  have HR : Hid (∀ W, Calls Try.prog 35 #[.agg #[.int .u32 cC, .int .u8 cE, .int .u16 cB, .int .u16 cT, .int .u16 cP, .int .u16 cY, .int .u32 cR, .bool cV]] W fun e' w' => e' = .returned (.tuple #[.int .u32 x, .int .u64 y]) ∧ Below W.heap.size W w') := fun W => range_is cC cE cB cT cP cY cR cV x y W cl hx hy
  have hxl : x < 4294967296 := by rw [← hx]; exact (dec_lt _ _ _ _).1
  have hcl : cC < 4294967296 := cl.1
  have hn := bits_ne cl.2.2.2.2.1 hq
  have hfr := fun W => free_any cC cE cB cT cP cY cR cV W
  clear hx hy
  obtain ⟨kf, hkf⟩ : ∃ k, freeN cY cV = k := ⟨_, rfl⟩
  obtain ⟨kp, hkp⟩ : ∃ k, decide (cP &&& q ≠ 0) = k := ⟨_, rfl⟩
  rw [hkp] at hn
  rw [hkf] at hfr
  have HF := hide hfr
  clear hfr
  have hov : overN cC cP cY cV q x y = (kf && (kp && (decide (1 ≤ cC) && (decide (cC ≤ 4095) && (decide (x ≤ cC) && decide (cC < y)))))) := by
    unfold overN; rw [hkf, hkp]
  rw [hov]
  clear hov hkf hkp
  cases kf with
  | false =>
    have HV : Hid ((false && (kp && (decide (1 ≤ cC) && (decide (cC ≤ 4095) && (decide (x ≤ cC) && decide (cC < y)))))) = false) := rfl
    go_enter Try.func50, Try.ntmps50
    go_wp2_with fail
    refine (HR.out _).mono ?_
    rintro e w1 ⟨rfl, hb1⟩
    obtain ⟨hc1, hf1⟩ := bcell hb1
    have hz1 := hb1.size
    simp at hz1
    have l1 : w.heap.size < w1.heap.size := by omega
    have HB1 := hide hb1; clear hb1
    go_wp2_with fail
    refine (HF.out _).mono ?_
    rintro e w2 ⟨rfl, hb2⟩
    obtain ⟨hc2, hf2⟩ := bcell hb2
    have HB2 := hide hb2; clear hb2
    go_wp2
    go_ret
    exact ⟨ret_bool HV.out.symm, (((Below.refl _ _).alloc (Nat.le_refl _) _).trans (HB1.out.mono (by simp))).trans (HB2.out.mono (by omega))⟩
  | true =>
    cases kp with
    | false =>
      have HV : Hid ((true && (false && (decide (1 ≤ cC) && (decide (cC ≤ 4095) && (decide (x ≤ cC) && decide (cC < y)))))) = false) := rfl
      go_enter Try.func50, Try.ntmps50
      go_wp2_with fail
      refine (HR.out _).mono ?_
      rintro e w1 ⟨rfl, hb1⟩
      obtain ⟨hc1, hf1⟩ := bcell hb1
      have hz1 := hb1.size
      simp at hz1
      have l1 : w.heap.size < w1.heap.size := by omega
      have HB1 := hide hb1; clear hb1
      go_wp2_with fail
      refine (HF.out _).mono ?_
      rintro e w2 ⟨rfl, hb2⟩
      obtain ⟨hc2, hf2⟩ := bcell hb2
      have HB2 := hide hb2; clear hb2
      go_wp2
      go_ret
      exact ⟨ret_bool HV.out.symm, (((Below.refl _ _).alloc (Nat.le_refl _) _).trans (HB1.out.mono (by simp))).trans (HB2.out.mono (by omega))⟩
    | true =>
      by_cases c1 : (1 : Int) ≤ cC
      · by_cases c2 : (cC : Int) ≤ 4095
        · by_cases c3 : x ≤ cC
          · have HV : Hid ((true && (true && (decide (1 ≤ cC) && (decide (cC ≤ 4095) && (decide (x ≤ cC) && decide (cC < y)))))) = decide (cC < y)) := by
              show _ = _
              rw [decide_eq_true (show 1 ≤ cC by omega), decide_eq_true (show cC ≤ 4095 by omega), decide_eq_true c3]; rfl
            go_enter Try.func50, Try.ntmps50
            go_wp2_with fail
            refine (HR.out _).mono ?_
            rintro e w1 ⟨rfl, hb1⟩
            obtain ⟨hc1, hf1⟩ := bcell hb1
            have hz1 := hb1.size
            simp at hz1
            have l1 : w.heap.size < w1.heap.size := by omega
            have HB1 := hide hb1; clear hb1
            go_wp2_with fail
            refine (HF.out _).mono ?_
            rintro e w2 ⟨rfl, hb2⟩
            obtain ⟨hc2, hf2⟩ := bcell hb2
            have HB2 := hide hb2; clear hb2
            go_wp2
            go_ret
            exact ⟨ret_bool HV.out.symm, (((Below.refl _ _).alloc (Nat.le_refl _) _).trans (HB1.out.mono (by simp))).trans (HB2.out.mono (by omega))⟩
          · have d3 : decide (x ≤ cC) = false := by simpa using c3
            have HV : Hid ((true && (true && (decide (1 ≤ cC) && (decide (cC ≤ 4095) && (decide (x ≤ cC) && decide (cC < y)))))) = false) := by
              show _ = _
              rw [d3]; simp
            go_enter Try.func50, Try.ntmps50
            go_wp2_with fail
            refine (HR.out _).mono ?_
            rintro e w1 ⟨rfl, hb1⟩
            obtain ⟨hc1, hf1⟩ := bcell hb1
            have hz1 := hb1.size
            simp at hz1
            have l1 : w.heap.size < w1.heap.size := by omega
            have HB1 := hide hb1; clear hb1
            go_wp2_with fail
            refine (HF.out _).mono ?_
            rintro e w2 ⟨rfl, hb2⟩
            obtain ⟨hc2, hf2⟩ := bcell hb2
            have HB2 := hide hb2; clear hb2
            go_wp2
            go_ret
            exact ⟨ret_bool HV.out.symm, (((Below.refl _ _).alloc (Nat.le_refl _) _).trans (HB1.out.mono (by simp))).trans (HB2.out.mono (by omega))⟩
        · have d2 : decide ((cC : Int) ≤ 4095) = false := by simpa using c2
          have HV : Hid ((true && (true && (decide (1 ≤ cC) && (decide (cC ≤ 4095) && (decide (x ≤ cC) && decide (cC < y)))))) = false) := by
            show _ = _
            rw [decide_eq_false (show ¬ cC ≤ 4095 by omega)]; simp
          go_enter Try.func50, Try.ntmps50
          go_wp2_with fail
          refine (HR.out _).mono ?_
          rintro e w1 ⟨rfl, hb1⟩
          obtain ⟨hc1, hf1⟩ := bcell hb1
          have hz1 := hb1.size
          simp at hz1
          have l1 : w.heap.size < w1.heap.size := by omega
          have HB1 := hide hb1; clear hb1
          go_wp2_with fail
          refine (HF.out _).mono ?_
          rintro e w2 ⟨rfl, hb2⟩
          obtain ⟨hc2, hf2⟩ := bcell hb2
          have HB2 := hide hb2; clear hb2
          go_wp2
          go_ret
          exact ⟨ret_bool HV.out.symm, (((Below.refl _ _).alloc (Nat.le_refl _) _).trans (HB1.out.mono (by simp))).trans (HB2.out.mono (by omega))⟩
      · have d1 : decide ((1 : Int) ≤ cC) = false := by simpa using c1
        have HV : Hid ((true && (true && (decide (1 ≤ cC) && (decide (cC ≤ 4095) && (decide (x ≤ cC) && decide (cC < y)))))) = false) := by
          show _ = _
          rw [decide_eq_false (show ¬ 1 ≤ cC by omega)]; simp
        go_enter Try.func50, Try.ntmps50
        go_wp2_with fail
        refine (HR.out _).mono ?_
        rintro e w1 ⟨rfl, hb1⟩
        obtain ⟨hc1, hf1⟩ := bcell hb1
        have hz1 := hb1.size
        simp at hz1
        have l1 : w.heap.size < w1.heap.size := by omega
        have HB1 := hide hb1; clear hb1
        go_wp2_with fail
        refine (HF.out _).mono ?_
        rintro e w2 ⟨rfl, hb2⟩
        obtain ⟨hc2, hf2⟩ := bcell hb2
        have HB2 := hide hb2; clear hb2
        go_wp2
        go_ret
        exact ⟨ret_bool HV.out.symm, (((Below.refl _ _).alloc (Nat.le_refl _) _).trans (HB1.out.mono (by simp))).trans (HB2.out.mono (by omega))⟩
end Go.Proofs.Ytljchnfofjmleaa
