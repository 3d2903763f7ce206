/-
  Walks of layer 4: below, Sound, and the document's Sound.
-/
import Derived.Test.YtljchnfofjmleaaCapRef
namespace Go.Proofs.Ytljchnfofjmleaa
open Go.RowKit
attribute [local go_sem ↓] Go.wp_at_zero Go.wp_at_succ

/-- Are a capability's fields what they may be? -/
def soundN (e b t p y r : Nat) : Bool := decide (e < 22) && decide (b < 4096) && decide (t < 4096) && decide (p < 256) && decide (y < 4096) && decide (r < 16777216)
/-- Is each of the first n pairs in order? -/
def pairsOk (f : Nat → Nat) (n : Nat) : Bool := decide (∀ k, k < n → f (2 * k) < f (2 * k + 1))
def BelA (w wr : World) (f : Nat → Nat) (i : Value) : Prop := ∃ k : Nat, k ≤ 6 ∧ i = .int .i64 (2 * (k : Int)) ∧ (∀ j, j < k → f (2 * j) < f (2 * j + 1)) ∧ ∃ m, wr = w.drewN m

theorem below_any (g : Nat) (f : Nat → Nat) (w : World) (hc : ∀ j, j < 12 → w.cell? ⟨g, j, none⟩ = some (.int .u32 (f j))) :
    Calls Try.prog 55 #[.slice (some ⟨g, 0, none⟩) 12 12] w fun e w' => e = .returned (.bool (pairsOk f 6)) ∧ ∃ m, w' = w.drewN m := by
  have HC := hide hc; clear hc
  go_enter Try.func55, Try.ntmps55
  go_wp2
  go_loopw [3] (fun i wr => BelA w wr f i) (fun i _ => 12 - (intOf i).toNat)
  case atStart => exact ⟨0, by omega, rfl, fun j hj => absurd hj (by omega), 0, rfl⟩
  case round =>
    obtain ⟨k, hk, rfl, hall, m, rfl⟩ := hrel
    have HA := hide hall; clear hall
    by_cases hlt : k < 6
    · have i1 : 2 * (k : Int) + 1 < 12 := by omega
      have i0 : 0 ≤ 2 * (k : Int) := by omega
      have c0 := HC.out (2 * k) (by omega)
      have c1 := HC.out (2 * k + 1) (by omega)
      obtain ⟨x, hx⟩ : ∃ x, f (2 * k) = x := ⟨_, rfl⟩
      obtain ⟨y, hy⟩ : ∃ y, f (2 * k + 1) = y := ⟨_, rfl⟩
      rw [hx] at c0
      rw [hy] at c1
      have e0 : (2 * (k : Int)).toNat = 2 * k := by omega
      have e1 : (2 * (k : Int) + 1).toNat = 2 * k + 1 := by omega
      have e2 : IntKind.i64.wrap (2 * (k : Int) + 1) = 2 * (k : Int) + 1 := IntWalk.i64_in _ (by omega)
      have e3 : 0 ≤ 2 * (k : Int) + 1 := by omega
      have HX := hide hx
      have HY := hide hy
      clear hx hy
      by_cases hxy : x < y
      · have d1 : decide (y ≤ x) = false := by simp; omega
        go_wp2_with fail
        go_quiet (fail)
        go_wp2
        go_roundw
        case rel => exact ⟨k + 1, by omega, by first | rfl | (congr 1; omega), fun j hj => by
            by_cases h : j < k
            · exact HA.out j h
            · obtain rfl : j = k := by omega
              rw [HX.out, HY.out]; exact hxy, _, rfl⟩
        case measure => simp [intOf]; omega
      · have d1 : decide (y ≤ x) = true := by simp; omega
        go_wp2_with fail
        go_quiet (fail)
        go_wp2
        go_ret
        refine ⟨ret_bool ?_, _, World.drewN_drewN _ _ _⟩
        unfold pairsOk
        symm
        rw [decide_eq_false_iff_not]
        intro h
        have := h k hlt
        rw [HX.out, HY.out] at this
        exact hxy this
    · obtain rfl : k = 6 := by omega
      go_wp2
      go_ret
      refine ⟨ret_bool ?_, _, rfl⟩
      unfold pairsOk
      symm
      rw [decide_eq_true_eq]
      exact HA.out
theorem pairs_sound (e b t p y r : Nat) (f : Nat → Nat) (h0 : f 0 = e) (h1 : f 1 = 22) (h2 : f 2 = b) (h3 : f 3 = 4096) (h4 : f 4 = t) (h5 : f 5 = 4096) (h6 : f 6 = p) (h7 : f 7 = 256) (h8 : f 8 = y) (h9 : f 9 = 4096) (h10 : f 10 = r) (h11 : f 11 = 16777216) :
    pairsOk f 6 = soundN e b t p y r := by
  rw [Bool.eq_iff_iff]
  unfold pairsOk soundN
  simp only [decide_eq_true_eq, Bool.and_eq_true]
  constructor
  · intro h
    have a0 := h 0 (by omega)
    have a1 := h 1 (by omega)
    have a2 := h 2 (by omega)
    have a3 := h 3 (by omega)
    have a4 := h 4 (by omega)
    have a5 := h 5 (by omega)
    simp only [Nat.mul_zero, Nat.zero_add, Nat.mul_one, Nat.reduceMul, Nat.reduceAdd] at a0 a1 a2 a3 a4 a5
    omega
  · intro h k hk
    have hk' : k = 0 ∨ k = 1 ∨ k = 2 ∨ k = 3 ∨ k = 4 ∨ k = 5 := by omega
    rcases hk' with rfl | rfl | rfl | rfl | rfl | rfl <;> simp only [Nat.mul_zero, Nat.zero_add, Nat.mul_one, Nat.reduceMul, Nat.reduceAdd] <;> omega
theorem sound_any (cC cE cB cT cP cY cR : Nat) (cV : Bool) (w : World) (cl : capB cC cE cB cT cP cY cR) :
    Calls Try.prog 32 #[.agg #[.int .u32 cC, .int .u8 cE, .int .u16 cB, .int .u16 cT, .int .u16 cP, .int .u16 cY, .int .u32 cR, .bool cV]] w fun e' w' => e' = .returned (.bool (soundN cE cB cT cP cY cR)) ∧ Below w.heap.size w w' := by
  obtain ⟨cCl, cEl, cBl, cTl, cPl, cYl, cRl⟩ := cl
  obtain ⟨f, hf⟩ : ∃ f : Nat → Nat, f = fun j => [cE, 22, cB, 4096, cT, 4096, cP, 256, cY, 4096, cR, 16777216].getD j 0 := ⟨_, rfl⟩
  have hps := pairs_sound cE cB cT cP cY cR f (by rw [hf]; rfl) (by rw [hf]; rfl) (by rw [hf]; rfl) (by rw [hf]; rfl) (by rw [hf]; rfl) (by rw [hf]; rfl) (by rw [hf]; rfl) (by rw [hf]; rfl) (by rw [hf]; rfl) (by rw [hf]; rfl) (by rw [hf]; rfl) (by rw [hf]; rfl)
  have HPS := hide hps
  have HF : Hid (∀ W g, Blk W g 22 #[.int .u32 cE, .int .u32 22, .int .u32 cB, .int .u32 4096, .int .u32 cT, .int .u32 4096, .int .u32 cP, .int .u32 256, .int .u32 cY, .int .u32 4096, .int .u32 cR, .int .u32 16777216] → ∀ j, j < 12 → W.cell? ⟨g, j, none⟩ = some (.int .u32 (f j))) := fun W g hb j hj => by
    have hj' : j = 0 ∨ j = 1 ∨ j = 2 ∨ j = 3 ∨ j = 4 ∨ j = 5 ∨ j = 6 ∨ j = 7 ∨ j = 8 ∨ j = 9 ∨ j = 10 ∨ j = 11 := by omega
    rcases hj' with rfl | rfl | rfl | rfl | rfl | rfl | rfl | rfl | rfl | rfl | rfl | rfl <;> (rw [hf]; exact hb.cell _)
  clear hps hf
  go_enter Try.func32, Try.ntmps32
  go_wp2_with fail
  refine (below_any _ f _ (HF.out _ _ (Blk.new2 w _ _ _))).mono ?_
  rintro e' w1 ⟨rfl, m, rfl⟩
  go_wp2
  go_ret
  exact ⟨ret_bool HPS.out, by (repeat (first | (with_reducible exact Below.refl _ _) | (with_reducible refine Below.drew ?_) | (with_reducible refine below_drewN ?_ _) | (with_reducible refine Below.alloc ?_ (by simp <;> omega) _) | (with_reducible refine Below.setCell ?_ (by simp <;> omega) _)))⟩
theorem rsound_any (cC cE cB cT cP cY cR : Nat) (cV : Bool) (w : World) (cl : capB cC cE cB cT cP cY cR) :
    Calls Try.prog 53 #[.agg #[.int .u32 cC, .int .u8 cE, .int .u16 cB, .int .u16 cT, .int .u16 cP, .int .u16 cY, .int .u32 cR, .bool cV]] w fun e' w' => e' = .returned (.bool (soundN cE cB cT cP cY cR)) ∧ Below w.heap.size w w' := by
  obtain ⟨cCl, cEl, cBl, cTl, cPl, cYl, cRl⟩ := cl
  have hs : soundN cE cB cT cP cY cR = (decide ((cE : Int) ≤ 21) && (decide ((cB : Int) < 4096) && (decide ((cT : Int) < 4096) && (decide ((cP : Int) ≤ 255) && (decide ((cY : Int) < 4096) && decide ((cR : Int) < 16777216)))))) := by
    unfold soundN
    rw [Bool.eq_iff_iff]
    simp only [Bool.and_eq_true, decide_eq_true_eq]
    omega
  rw [hs]
  clear hs
  by_cases c1 : (cE : Int) ≤ 21
  · by_cases c2 : (cB : Int) < 4096
    · by_cases c3 : (cT : Int) < 4096
      · by_cases c4 : (cP : Int) ≤ 255
        · by_cases c5 : (cY : Int) < 4096
          · rw [decide_eq_true c1, decide_eq_true c2, decide_eq_true c3, decide_eq_true c4, decide_eq_true c5]
            simp only [Bool.true_and]
            go_enter Try.func53, Try.ntmps53
            go_wp2
            go_ret
            exact ⟨rfl, by (repeat (first | (with_reducible exact Below.refl _ _) | (with_reducible refine Below.drew ?_) | (with_reducible refine below_drewN ?_ _) | (with_reducible refine Below.alloc ?_ (by simp <;> omega) _) | (with_reducible refine Below.setCell ?_ (by simp <;> omega) _)))⟩
          · have d : decide ((cY : Int) < 4096) = false := by simpa using c5
            rw [d, decide_eq_true c1, decide_eq_true c2, decide_eq_true c3, decide_eq_true c4]
            simp only [Bool.true_and, Bool.false_and]
            go_enter Try.func53, Try.ntmps53
            go_wp2
            go_ret
            exact ⟨rfl, by (repeat (first | (with_reducible exact Below.refl _ _) | (with_reducible refine Below.drew ?_) | (with_reducible refine below_drewN ?_ _) | (with_reducible refine Below.alloc ?_ (by simp <;> omega) _) | (with_reducible refine Below.setCell ?_ (by simp <;> omega) _)))⟩
        · have d : decide ((cP : Int) ≤ 255) = false := by simpa using c4
          rw [d, decide_eq_true c1, decide_eq_true c2, decide_eq_true c3]
          simp only [Bool.true_and, Bool.false_and]
          go_enter Try.func53, Try.ntmps53
          go_wp2
          go_ret
          exact ⟨rfl, by (repeat (first | (with_reducible exact Below.refl _ _) | (with_reducible refine Below.drew ?_) | (with_reducible refine below_drewN ?_ _) | (with_reducible refine Below.alloc ?_ (by simp <;> omega) _) | (with_reducible refine Below.setCell ?_ (by simp <;> omega) _)))⟩
      · have d : decide ((cT : Int) < 4096) = false := by simpa using c3
        rw [d, decide_eq_true c1, decide_eq_true c2]
        simp only [Bool.true_and, Bool.false_and]
        go_enter Try.func53, Try.ntmps53
        go_wp2
        go_ret
        exact ⟨rfl, by (repeat (first | (with_reducible exact Below.refl _ _) | (with_reducible refine Below.drew ?_) | (with_reducible refine below_drewN ?_ _) | (with_reducible refine Below.alloc ?_ (by simp <;> omega) _) | (with_reducible refine Below.setCell ?_ (by simp <;> omega) _)))⟩
    · have d : decide ((cB : Int) < 4096) = false := by simpa using c2
      rw [d, decide_eq_true c1]
      simp only [Bool.true_and, Bool.false_and]
      go_enter Try.func53, Try.ntmps53
      go_wp2
      go_ret
      exact ⟨rfl, by (repeat (first | (with_reducible exact Below.refl _ _) | (with_reducible refine Below.drew ?_) | (with_reducible refine below_drewN ?_ _) | (with_reducible refine Below.alloc ?_ (by simp <;> omega) _) | (with_reducible refine Below.setCell ?_ (by simp <;> omega) _)))⟩
  · have d : decide ((cE : Int) ≤ 21) = false := by simpa using c1
    rw [d]
    simp only [Bool.false_and]
    go_enter Try.func53, Try.ntmps53
    go_wp2
    go_ret
    exact ⟨rfl, by (repeat (first | (with_reducible exact Below.refl _ _) | (with_reducible refine Below.drew ?_) | (with_reducible refine below_drewN ?_ _) | (with_reducible refine Below.alloc ?_ (by simp <;> omega) _) | (with_reducible refine Below.setCell ?_ (by simp <;> omega) _)))⟩
end Go.Proofs.Ytljchnfofjmleaa
