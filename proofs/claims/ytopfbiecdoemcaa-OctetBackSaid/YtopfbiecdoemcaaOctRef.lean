/-
  Walks of the document's answer for layer 1: Width, within, Get, Put.
-/
import Derived.Test.YtopfbiecdoemcaaProg
import Derived.Test.YtopfbiecdoemcaaNum
import Derived.Test.YtopfbiecdoemcaaBase
import Derived.WalkKit
import Derived.WalkSpells
import Derived.WalkLawsBesides
import Derived.Outline
import Derived.Deep.QuietTactic
import Derived.BigQuiet
import Derived.Lib.Hide
import Derived.KernelRfl
namespace Go.Proofs.Ytopfbiecdoemcaa
open Go.RowKit
theorem width_any (n : Int) (w : World) : Calls Try.prog 24 #[.int .i64 n] w fun e w' => e = .returned (.bool (wd n)) ∧ w = w' := by
  by_cases h1 : n = 1
  · subst h1
    go_enter Try.func24, Try.ntmps24
    go_wp2
    go_ret
    exact ⟨rfl, rfl⟩
  by_cases h2 : n = 2
  · subst h2
    go_enter Try.func24, Try.ntmps24
    go_wp2
    go_ret
    exact ⟨rfl, rfl⟩
  have k1 : (n == 1) = false := by simp [h1]
  have k2 : (n == 2) = false := by simp [h2]
  go_enter Try.func24, Try.ntmps24
  go_wp2
  go_ret
  exact ⟨by simp [wd, k1, k2], rfl⟩
theorem width_no (n : Int) (w : World) (h : wd n = false) : Calls Try.prog 24 #[.int .i64 n] w fun e w' => e = .returned (.bool false) ∧ w = w' := by
  have := width_any n w; rwa [h] at this
theorem width_yes (n : Int) (w : World) (h : wd n = true) : Calls Try.prog 24 #[.int .i64 n] w fun e w' => e = .returned (.bool true) ∧ w = w' := by
  have := width_any n w; rwa [h] at this

theorem within_any (n : Nat) (a k : Int) (w : World) (hm : n ≤ 9223372036854775807) :
    Calls Try.prog 25 #[.int .i64 n, .int .i64 a, .int .i64 k] w fun e w' => e = .returned (.bool (okAt n a k)) ∧ w = w' := by
  by_cases hw : wd k = true
  · have hk4 := wd_true hw
    by_cases h0 : 0 ≤ a
    · by_cases h1 : k ≤ n
      · by_cases h2 : a ≤ n - k
        · rw [okAt_mk hw h0 h2]
          go_enter Try.func25, Try.ntmps25
          go_wp2_with (go_at_call 24; refine (width_yes _ _ hw).mono ?_; rintro e w' ⟨rfl, rfl⟩)
          go_ret
          exact ⟨rfl, rfl⟩
        · rw [okAt_far (by omega)]
          go_enter Try.func25, Try.ntmps25
          go_wp2_with (go_at_call 24; refine (width_yes _ _ hw).mono ?_; rintro e w' ⟨rfl, rfl⟩)
          go_ret
          exact ⟨ret_bool (decide_eq_false (by omega)), rfl⟩
      · rw [okAt_far (by omega)]
        have hd : decide (k ≤ (n : Int)) = false := by simpa using h1
        go_enter Try.func25, Try.ntmps25
        go_wp2_with (go_at_call 24; refine (width_yes _ _ hw).mono ?_; rintro e w' ⟨rfl, rfl⟩)
        go_ret
        exact ⟨rfl, rfl⟩
    · rw [okAt_neg (by omega)]
      have hd : decide (0 ≤ a) = false := by simpa using h0
      go_enter Try.func25, Try.ntmps25
      go_wp2_with (go_at_call 24; refine (width_yes _ _ hw).mono ?_; rintro e w' ⟨rfl, rfl⟩)
      go_ret
      exact ⟨rfl, rfl⟩
  · have hw' : wd k = false := by simpa using hw
    rw [okAt_wd hw']
    go_enter Try.func25, Try.ntmps25
    go_wp2_with (go_at_call 24; refine (width_no _ _ hw').mono ?_; rintro e w' ⟨rfl, rfl⟩)
    go_ret
    exact ⟨rfl, rfl⟩
theorem within_no (n : Nat) (a k : Int) (w : World) (hm : n ≤ 9223372036854775807) (h : okAt n a k = false) :
    Calls Try.prog 25 #[.int .i64 n, .int .i64 a, .int .i64 k] w fun e w' => e = .returned (.bool false) ∧ w = w' := by
  have := within_any n a k w hm; rwa [h] at this
theorem within_yes (n : Nat) (a k : Int) (w : World) (hm : n ≤ 9223372036854775807) (h : okAt n a k = true) :
    Calls Try.prog 25 #[.int .i64 n, .int .i64 a, .int .i64 k] w fun e w' => e = .returned (.bool true) ∧ w = w' := by
  have := within_any n a k w hm; rwa [h] at this

theorem rget_no (l : List UInt8) (a k : Int) (w : World) (hm : l.length ≤ 9223372036854775807) (h : okAt l.length a k = false) :
    Calls Try.prog 14 #[.string (bs l), .int .i64 a, .int .i64 k] w fun e w' => e = .returned (.tuple #[.int .u32 0, .bool false]) ∧ w = w' := by
  go_enter Try.func14, Try.ntmps14
  go_wp2_with (go_at_call 25; refine (within_no _ _ _ _ hm h).mono ?_; rintro e w' ⟨rfl, rfl⟩)
  go_ret2
  exact ⟨rfl, rfl⟩

theorem rget_yes (l : List UInt8) (a k : Nat) (w : World) (hm : l.length ≤ 9223372036854775807) (h : okAt l.length a k = true) :
    Calls Try.prog 14 #[.string (bs l), .int .i64 a, .int .i64 k] w fun e w' => e = .returned (.tuple #[.int .u32 (le ((l.drop a).take k) : Nat), .bool true]) ∧ w = w' := by
  have hk4 := wd_true (okAt_true h).1
  have hle := (okAt_true h).2.2
  have HH := hide h; clear h
  go_enter Try.func14, Try.ntmps14
  go_wp2_with (go_at_call 25; refine (within_yes _ _ _ _ hm HH.out).mono ?_; rintro e w' ⟨rfl, rfl⟩)
  go_loop [8, 9] (fun v i => ∃ r : Nat, r ≤ k ∧ i = .int .i64 ((r : Int) - 1) ∧ v = .int .u32 (le ((l.drop (a + r)).take (k - r)) : Nat)) (fun _ i => (intOf i + 1).toNat)
  case atStart => exact ⟨k, Nat.le_refl _, rfl, by simp [le]⟩
  case round =>
    obtain ⟨r, hr, rfl, rfl⟩ := hrel
    by_cases h0 : r = 0
    · subst h0
      go_wp2
      go_ret2
      exact ⟨rfl, rfl⟩
    · obtain ⟨c, rfl⟩ : ∃ c, r = c + 1 := ⟨r - 1, by omega⟩
      have e1 : ((c + 1 : Nat) : Int) - 1 = c := by omega
      rw [e1]
      clear e1
      have hlt : a + c < l.length := by omega
      go_wp2
      go_round
      case rel =>
        exact ⟨c, by omega, rfl, vint (rget_step l a c k hlt hr (by omega))⟩
      case measure => simp [intOf]
theorem rget_any (l : List UInt8) (a k : Int) (w : World) (hm : l.length ≤ 9223372036854775807) :
    Calls Try.prog 14 #[.string (bs l), .int .i64 a, .int .i64 k] w fun e w' => e = .returned (.tuple #[.int .u32 (gotN l a k : Nat), .bool (okAt l.length a k)]) ∧ w = w' := by
  by_cases hk : okAt l.length a k = true
  · obtain ⟨hw, h0, _⟩ := okAt_true hk
    have hk4 := wd_true hw
    obtain ⟨a, rfl⟩ := Int.eq_ofNat_of_zero_le h0
    obtain ⟨k, rfl⟩ := Int.eq_ofNat_of_zero_le (show 0 ≤ k by omega)
    have e : gotN l (a : Int) (k : Int) = le ((l.drop a).take k) := by unfold gotN; rw [if_pos hk]; rfl
    rw [e, hk]
    exact rget_yes l a k w hm hk
  · have hk' : okAt l.length a k = false := by simpa using hk
    have e : gotN l a k = 0 := by unfold gotN; rw [if_neg hk]
    rw [hk', e]
    exact rget_no l a k w hm hk'

theorem rput_no (s : List UInt8) (k : Int) (v : Nat) (w : World) (h : wd k = false) :
    Calls Try.prog 11 #[.string (bs s), .int .i64 k, .int .u32 v] w fun e w' => e = .returned (.string (bs s)) ∧ w = w' := by
  go_enter Try.func11, Try.ntmps11
  go_wp2_with (go_at_call 24; refine (width_no _ _ h).mono ?_; rintro e w' ⟨rfl, rfl⟩)
  go_ret
  exact ⟨rfl, rfl⟩

theorem rput_yes (s : List UInt8) (k : Nat) (v : Nat) (w : World) (h : wd k = true) (hv : v < 4294967296) (hs : s.length ≤ 9223372036854770000) :
    Calls Try.prog 11 #[.string (bs s), .int .i64 k, .int .u32 v] w fun e w' => e = .returned (.string (bs (s ++ toLE k v))) ∧ Below w.heap.size w w' := by
  have hk4 := wd_true h
  have HH := hide h; clear h
  have hcv := run_conv_one (P := Try.prog) 28 9 5 Try.underlying28 Try.underlying5 Try.underlying9
  go_enter Try.func11, Try.ntmps11
  go_wp2_with (go_at_call 24; refine (width_yes _ _ HH.out).mono ?_; rintro e w' ⟨rfl, rfl⟩)
  go_loopw [0, 2, 7] (fun sv vv i wr => ∃ (r q : Nat) (l : List UInt8), r ≤ k ∧ i = .int .i64 r ∧ sv = .string (bs l) ∧ vv = .int .u32 (q : Nat) ∧ q < 4294967296 ∧ l.length ≤ s.length + r ∧ Hid (s ++ toLE k v = l ++ toLE (k - r) q) ∧ Below w.heap.size w wr) (fun _ _ i _ => k - (intOf i).toNat)
  case atStart => exact ⟨0, v, s, Nat.zero_le _, rfl, rfl, rfl, hv, by omega, rfl, Below.refl _ _⟩
  case round =>
    obtain ⟨r, q, l, hr, rfl, rfl, rfl, hq, hl, HL, hb⟩ := hrel
    by_cases h0 : r < k
    · go_wp2
      go_roundw
      case rel =>
        refine ⟨r + 1, q / 256, l ++ [UInt8.ofNat q], by omega, by go_num, ?_, rfl, by omega, by simp; omega, ?_, hb.alloc hb.size _⟩
        · exact vstr (by rw [u8_modN])
        · show _ = _
          rw [HL.out, show k - r = (k - (r + 1)) + 1 by omega, toLE, List.append_assoc]; rfl
      case measure => simp [intOf]; omega
    · go_wp2
      go_ret
      have : r = k := by omega
      subst this
      have := HL.out
      rw [Nat.sub_self] at this
      exact ⟨ret_bs (by rw [this, toLE, List.append_nil]), hb⟩

/-- The document's Put. -/
theorem rput_any (s : List UInt8) (k : Int) (v : Nat) (w : World) (hv : v < 4294967296) (hs : s.length ≤ 9223372036854770000) :
    Calls Try.prog 11 #[.string (bs s), .int .i64 k, .int .u32 v] w fun e w' => e = .returned (.string (bs (putN s k v))) ∧ Below w.heap.size w w' := by
  by_cases h : wd k = true
  · obtain ⟨k, rfl⟩ := Int.eq_ofNat_of_zero_le (show 0 ≤ k by have := wd_true h; omega)
    have e : putN s (k : Int) v = s ++ toLE k v := by unfold putN; rw [if_pos h]; rfl
    rw [e]
    exact rput_yes s k v w h hv hs
  · have h' : wd k = false := by simpa using h
    have e : putN s k v = s := by unfold putN; rw [if_neg h]
    rw [e]
    exact (rput_no s k v w h').mono fun _ _ ⟨he, hw⟩ => ⟨he, hw ▸ Below.refl _ _⟩
end Go.Proofs.Ytopfbiecdoemcaa
