/-
  Walks of octet.right and octet.Get: the number that bytes are.
-/
import Derived.Test.YtopfbiecdoemcaaProg
import Derived.Test.YtopfbiecdoemcaaNum
import Derived.Test.YtopfbiecdoemcaaBase
import Derived.WalkKit
import Derived.WalkSpells
import Derived.WalkLawsBesides
import Derived.Outline
import Derived.Deep.QuietTactic
import Derived.BigQuiet
import Derived.Lib.Hide
import Derived.KernelRfl
namespace Go.Proofs.Ytopfbiecdoemcaa
open Go.RowKit
theorem right_any (n : Int) (w : World) : Calls Try.prog 23 #[.int .i64 n] w fun e w' => e = .returned (.bool (wd n)) ∧ w = w' := by
  by_cases h1 : n = 1
  · subst h1
    go_enter Try.func23, Try.ntmps23
    go_wp2
    go_ret
    exact ⟨rfl, rfl⟩
  by_cases h2 : n = 2
  · subst h2
    go_enter Try.func23, Try.ntmps23
    go_wp2
    go_ret
    exact ⟨rfl, rfl⟩
  have k1 : (n == 1) = false := by simp [h1]
  have k2 : (n == 2) = false := by simp [h2]
  go_enter Try.func23, Try.ntmps23
  go_wp2
  go_ret
  exact ⟨by simp [wd, k1, k2], rfl⟩
theorem right_no (n : Int) (w : World) (h : wd n = false) : Calls Try.prog 23 #[.int .i64 n] w fun e w' => e = .returned (.bool false) ∧ w = w' := by
  have := right_any n w; rwa [h] at this

theorem get_4 (g off n cap a : Nat) (b0 b1 b2 b3 : UInt8) (w : World) (hn : a + 4 ≤ n) (hc : n ≤ cap) (hm : cap ≤ 9223372036854775807)
    (h0 : w.cell? ⟨g, off + a, none⟩ = some (.int .u8 b0.toNat)) (h1 : w.cell? ⟨g, off + a + 1, none⟩ = some (.int .u8 b1.toNat))
    (h2 : w.cell? ⟨g, off + a + 2, none⟩ = some (.int .u8 b2.toNat)) (h3 : w.cell? ⟨g, off + a + 3, none⟩ = some (.int .u8 b3.toNat)) :
    Calls Try.prog 13 #[.slice (some ⟨g, off, none⟩) n cap, .int .i64 a, .int .i64 4] w fun e w' => e = .returned (.tuple #[.int .u32 (le [b0, b1, b2, b3] : Nat), .bool true]) ∧ ∃ m, w' = w.drewN m := by
  have e4 : a + 4 - a = 4 := by omega
  go_enter Try.func13, Try.ntmps13
  go_wp2_with (first | go_in)
  go_quiet (fail)
  go_wp2
  go_ret2
  exact ⟨ret2_int (u32_or4 _ _ _ _), _, rfl⟩
theorem get_2 (g off n cap a : Nat) (b0 b1 : UInt8) (w : World) (hn : a + 2 ≤ n) (hc : n ≤ cap) (hm : cap ≤ 9223372036854775807)
    (h0 : w.cell? ⟨g, off + a, none⟩ = some (.int .u8 b0.toNat)) (h1 : w.cell? ⟨g, off + a + 1, none⟩ = some (.int .u8 b1.toNat)) :
    Calls Try.prog 13 #[.slice (some ⟨g, off, none⟩) n cap, .int .i64 a, .int .i64 2] w fun e w' => e = .returned (.tuple #[.int .u32 (le [b0, b1] : Nat), .bool true]) ∧ ∃ m, w' = w.drewN m := by
  have e4 : a + 2 - a = 2 := by omega
  go_enter Try.func13, Try.ntmps13
  go_wp2_with (first | go_in)
  go_ret2
  exact ⟨ret2_int (u32_or2' _ _), 0, rfl⟩
theorem get_1 (g off n cap a : Nat) (b0 : UInt8) (w : World) (hn : a + 1 ≤ n) (hc : n ≤ cap) (hm : cap ≤ 9223372036854775807)
    (h0 : w.cell? ⟨g, off + a, none⟩ = some (.int .u8 b0.toNat)) :
    Calls Try.prog 13 #[.slice (some ⟨g, off, none⟩) n cap, .int .i64 a, .int .i64 1] w fun e w' => e = .returned (.tuple #[.int .u32 (le [b0] : Nat), .bool true]) ∧ ∃ m, w' = w.drewN m := by
  have e4 : a + 1 - a = 1 := by omega
  go_enter Try.func13, Try.ntmps13
  go_wp2_with (first | go_in)
  go_ret2
  exact ⟨ret2_int (u32_or1 _), 0, rfl⟩
theorem get_no (A : Option Addr) (n cap : Nat) (a k : Int) (w : World) (hk : okAt n a k = false) (hm : n ≤ 9223372036854775807) :
    Calls Try.prog 13 #[.slice A n cap, .int .i64 a, .int .i64 k] w fun e w' => e = .returned (.tuple #[.int .u32 0, .bool false]) ∧ ∃ m, w' = w.drewN m := by
  by_cases hw : wd k = false
  · have HK := hide hk; clear hk
    go_enter Try.func13, Try.ntmps13
    go_wp2_with (go_at_call 23; refine (right_no _ _ hw).mono ?_; rintro e w' ⟨rfl, rfl⟩)
    go_ret2
    exact ⟨rfl, 0, rfl⟩
  · have hw' := wd_true (by simpa using hw)
    have hcase : a < 0 ∨ (0 ≤ a ∧ n - k < a) := by
      rcases Int.lt_or_le a 0 with h | h
      · exact .inl h
      · refine .inr ⟨h, ?_⟩
        rcases Int.lt_or_le (n - k) a with h' | h'
        · exact h'
        · rw [okAt_mk (by simpa using hw) h h'] at hk; cases hk
    have HK := hide hk; clear hk
    have HW := hide hw; clear hw
    rcases hw' with rfl | rfl | rfl <;> rcases hcase with h | ⟨h, h'⟩
    all_goals
      go_enter Try.func13, Try.ntmps13
      go_wp2_with (first | go_in)
      go_ret2
      exact ⟨rfl, 0, rfl⟩

/-- octet.Get, at whatever bytes. -/
theorem get_any (B : Nat) (A : Option Addr) (cap : Nat) (l : List UInt8) (a k : Int) (w : World) (hr : Row w B A (bytesV l)) (hc : l.length ≤ cap) (hm : cap ≤ 9223372036854775807) :
    Calls Try.prog 13 #[.slice A l.length cap, .int .i64 a, .int .i64 k] w fun e w' => e = .returned (.tuple #[.int .u32 (gotN l a k : Nat), .bool (okAt l.length a k)]) ∧ ∃ m, w' = w.drewN m := by
  by_cases hk : okAt l.length a k = true
  · obtain ⟨hw, h0, h1⟩ := okAt_true hk
    obtain ⟨a, rfl⟩ := Int.eq_ofNat_of_zero_le h0
    have hk4 := wd_true hw
    have hlen : 0 < (bytesV l).length := by rw [bytesV_length]; omega
    obtain ⟨g, off, rfl, hg, hcell⟩ := hr.place hlen
    have cell : ∀ i, (hi : i < l.length) → w.cell? ⟨g, off + i, none⟩ = some (.int .u8 (l[i].toNat : Int)) := fun i hi => hcell i _ (bytesV_get l i hi)
    rw [hk]
    rcases hk4 with rfl | rfl | rfl
    · have e : (gotN l (a : Int) 1 : Nat) = le [l[a]] := by unfold gotN; rw [if_pos hk]; exact congrArg le (take_1 l a (by omega))
      rw [e]
      exact get_1 g off l.length cap a _ w (by omega) hc hm (cell a (by omega))
    · have e : (gotN l (a : Int) 2 : Nat) = le [l[a], l[a + 1]] := by unfold gotN; rw [if_pos hk]; exact congrArg le (take_2 l a (by omega))
      rw [e]
      exact get_2 g off l.length cap a _ _ w (by omega) hc hm (cell a (by omega)) (cell (a + 1) (by omega))
    · have e : (gotN l (a : Int) 4 : Nat) = le [l[a], l[a + 1], l[a + 2], l[a + 3]] := by unfold gotN; rw [if_pos hk]; exact congrArg le (take_4 l a (by omega))
      rw [e]
      exact get_4 g off l.length cap a _ _ _ _ w (by omega) hc hm (cell a (by omega)) (cell (a + 1) (by omega)) (cell (a + 2) (by omega)) (cell (a + 3) (by omega))
  · have hk' : okAt l.length a k = false := by simpa using hk
    have e : gotN l a k = 0 := by unfold gotN; rw [if_neg hk]
    rw [hk', e]
    exact get_no A l.length cap a k w hk' (by omega)
end Go.Proofs.Ytopfbiecdoemcaa
