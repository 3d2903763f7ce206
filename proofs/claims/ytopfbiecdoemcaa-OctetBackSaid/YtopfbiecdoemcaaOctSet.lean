/-
  Walks of octet.Set and octet.Put.
-/
import Derived.Test.YtopfbiecdoemcaaOctGet
namespace Go.Proofs.Ytopfbiecdoemcaa
open Go.RowKit

theorem set_no (A : Option Addr) (n cap : Nat) (a k : Int) (v : Nat) (w : World) (hk : okAt n a k = false) (hm : n ≤ 9223372036854775807) :
    Calls Try.prog 15 #[.slice A n cap, .int .i64 a, .int .i64 k, .int .u32 v] w fun e w' => e = .returned (.bool false) ∧ w = w' := by
  by_cases hw : wd k = false
  · have HK := hide hk; clear hk
    go_enter Try.func15, Try.ntmps15
    go_wp2_with (go_at_call 23; refine (right_no _ _ hw).mono ?_; rintro e w' ⟨rfl, rfl⟩)
    go_ret
    exact ⟨rfl, rfl⟩
  · have hw' := wd_true (by simpa using hw)
    have hcase : a < 0 ∨ (0 ≤ a ∧ n - k < a) := by
      rcases Int.lt_or_le a 0 with h | h
      · exact .inl h
      · refine .inr ⟨h, ?_⟩
        rcases Int.lt_or_le (n - k) a with h' | h'
        · exact h'
        · rw [okAt_mk (by simpa using hw) h h'] at hk; cases hk
    have HK := hide hk; clear hk
    have HW := hide hw; clear hw
    rcases hw' with rfl | rfl | rfl <;> rcases hcase with h | ⟨h, h'⟩
    all_goals
      go_enter Try.func15, Try.ntmps15
      go_wp2_with (first | go_in)
      go_ret
      exact ⟨rfl, rfl⟩

theorem right_yes (n : Int) (w : World) (h : wd n = true) : Calls Try.prog 23 #[.int .i64 n] w fun e w' => e = .returned (.bool true) ∧ w = w' := by
  have := right_any n w; rwa [h] at this

theorem set_yes (g off n cap a k v : Nat) (w : World) (h : okAt n a k = true) (hm : n ≤ 9223372036854775807) (_hv : v < 4294967296)
    (hc : ∀ j, j < n → ∃ u, w.cell? ⟨g, off + j, none⟩ = some u) (hf : ∀ j, j < n → w.frozen? ⟨g, off + j, none⟩ = false) :
    Calls Try.prog 15 #[.slice (some ⟨g, off, none⟩) n cap, .int .i64 a, .int .i64 k, .int .u32 v] w fun e w' => e = .returned (.bool true) ∧ setBytes w g (off + a) (toLE k v) = w' := by
  have hwd := (okAt_true h).1
  have hk4 := wd_true hwd
  have hle := (okAt_true h).2.2
  have HH := hide h; clear h
  have HW := hide hwd; clear hwd
  have HC := hide hc; clear hc
  have HF := hide hf; clear hf
  have hd1 : ¬ ((a : Int) < 0) := by omega
  have hd2 : ¬ ((n : Int) - k < a) := by omega
  go_enter Try.func15, Try.ntmps15
  go_wp2_with (go_at_call 23; refine (right_yes _ _ HW.out).mono ?_; rintro e w' ⟨rfl, rfl⟩)
  go_loopw [26] (fun i wr => ∃ r : Nat, r ≤ k ∧ i = .int .i64 r ∧ Hid (wr = setBytes w g (off + a) (toLE r v))) (fun i _ => k - (intOf i).toNat)
  case atStart => exact ⟨0, Nat.zero_le _, rfl, rfl⟩
  case round =>
    obtain ⟨r, hr, rfl, HW2⟩ := hrel
    by_cases h0 : r < k
    · have hcell : ∃ u, wr.cell? ⟨g, off + (a + r), none⟩ = some u := by
        rw [HW2.out, setBytes_other _ _ _ _ _ (.inr (.inr (by rw [toLE_length]; show _ ≤ off + (a + r); omega)))]
        exact HC.out _ (by omega)
      have hfro : wr.frozen? ⟨g, off + (a + r), none⟩ = false := by
        rw [HW2.out, setBytes_frozen]
        exact HF.out _ (by omega)
      obtain ⟨u, hu⟩ := hcell
      go_wp2
      go_roundw
      case rel =>
        refine ⟨r + 1, by omega, by go_num, ?_⟩
        show _ = _
        rw [toLE_snoc, setBytes_snoc, ← HW2.out, toLE_length, shr_byte, Nat.add_assoc]
      case measure => simp [intOf]; omega
    · go_wp2
      go_ret
      have : r = k := by omega
      subst this
      exact ⟨rfl, HW2.out.symm⟩

/-- octet.Put at no width: as it was. -/
theorem put_no (s : List UInt8) (k : Int) (v : Nat) (w : World) (h : wd k = false) :
    Calls Try.prog 10 #[.string (bs s), .int .i64 k, .int .u32 v] w fun e w' => e = .returned (.string (bs s)) ∧ w = w' := by
  go_enter Try.func10, Try.ntmps10
  go_wp2_with (go_at_call 23; refine (right_no _ _ h).mono ?_; rintro e w' ⟨rfl, rfl⟩)
  go_ret
  exact ⟨rfl, rfl⟩
theorem put_yes (s : List UInt8) (k : Nat) (v : Nat) (w : World) (h : wd k = true) (hv : v < 4294967296) (hs : s.length ≤ 9223372036854770000) :
    Calls Try.prog 10 #[.string (bs s), .int .i64 k, .int .u32 v] w fun e w' => e = .returned (.string (bs (s ++ toLE k v))) ∧ Below w.heap.size w w' := by
  have hk4 := wd_true h
  have HH := hide h; clear h
  go_enter Try.func10, Try.ntmps10
  go_wp2_with (go_at_call 23; refine (right_yes _ _ HH.out).mono ?_; rintro e w' ⟨rfl, rfl⟩)
  refine (set_yes w.heap.size 0 4 4 0 k v _ (okAt_mk HH.out (by omega) (by omega)) (by omega) hv ?_ ?_).mono ?_
  · intro j hj
    rw [Nat.zero_add]
    match j, hj with
    | 0, _ => exact ⟨_, cell_of_row _ _ 0 _ _ _ (heap_alloc_new w _)⟩
    | 1, _ => exact ⟨_, cell_of_row _ _ 1 _ _ _ (heap_alloc_new w _)⟩
    | 2, _ => exact ⟨_, cell_of_row _ _ 2 _ _ _ (heap_alloc_new w _)⟩
    | 3, _ => exact ⟨_, cell_of_row _ _ 3 _ _ _ (heap_alloc_new w _)⟩
  · intro j hj
    rw [Nat.zero_add]
    exact Blk.frozen (Blk.new w _ _) j
  · rintro e w1 ⟨rfl, hw1⟩
    have hb1 : Below w.heap.size w w1 := by
      rw [← hw1]
      exact setBytes_below _ _ _ (Nat.le_refl _) _ _ _ ((Below.refl _ _).alloc (Nat.le_refl _) _)
    have hcv : (convert 28 9 (.slice (some ⟨w.heap.size, 0, none⟩) k 4)).run Try.prog w1 = .ok (.string (bs (toLE k v))) w1 := by
      refine run_conv_bs _ _ 5 Try.underlying28 Try.underlying5 Try.underlying9 w1 w.heap.size 0 4 (toLE k v) k (toLE_length k v) (fun j hj => ?_)
      rw [← hw1]
      refine setBytes_at _ _ _ _ j hj (fun i hi => ?_)
      rw [toLE_length] at hi
      simp only [Nat.zero_add]
      have hi4 : i < 4 := by omega
      match i, hi4 with
      | 0, _ => exact ⟨_, cell_of_row _ _ 0 _ _ _ (heap_alloc_new w _)⟩
      | 1, _ => exact ⟨_, cell_of_row _ _ 1 _ _ _ (heap_alloc_new w _)⟩
      | 2, _ => exact ⟨_, cell_of_row _ _ 2 _ _ _ (heap_alloc_new w _)⟩
      | 3, _ => exact ⟨_, cell_of_row _ _ 3 _ _ _ (heap_alloc_new w _)⟩
    clear hw1
    have HB := hide hb1; clear hb1
    have hl : (toLE k v).length = k := toLE_length k v
    have hkk : (k : Int) ≤ 4 := by omega
    go_wp2
    go_ret
    exact ⟨rfl, HB.out⟩
/-- octet.Put. -/
theorem put_any (s : List UInt8) (k : Int) (v : Nat) (w : World) (hv : v < 4294967296) (hs : s.length ≤ 9223372036854770000) :
    Calls Try.prog 10 #[.string (bs s), .int .i64 k, .int .u32 v] w fun e w' => e = .returned (.string (bs (putN s k v))) ∧ Below w.heap.size w w' := by
  by_cases h : wd k = true
  · obtain ⟨k, rfl⟩ := Int.eq_ofNat_of_zero_le (show 0 ≤ k by have := wd_true h; omega)
    have e : putN s (k : Int) v = s ++ toLE k v := by unfold putN; rw [if_pos h]; rfl
    rw [e]
    exact put_yes s k v w h hv hs
  · have h' : wd k = false := by simpa using h
    have e : putN s k v = s := by unfold putN; rw [if_neg h]
    rw [e]
    exact (put_no s k v w h').mono fun _ _ ⟨he, hw⟩ => ⟨he, hw ▸ Below.refl _ _⟩
end Go.Proofs.Ytopfbiecdoemcaa
