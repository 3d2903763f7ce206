/-
  Walks of the document's reader: Take, Number.
-/
import Derived.Test.YtopfbiecdoemcaaOctRef2
import Derived.Deep.QuietTactic
namespace Go.Proofs.Ytopfbiecdoemcaa
open Go.RowKit

theorem rtake_yes (l : List UInt8) (n : Nat) (w : World) (_hl : l.length ≤ 9223372036854775807) (hn : n ≤ l.length) :
    Calls Try.prog 19 #[.agg #[.string (bs l)], .int .i64 n] w fun e w' => e = .returned (.tuple #[.agg #[.string (bs (l.drop n))], .string (bs (l.take n)), .bool true]) ∧ Below w.heap.size w w' := by
  have hd : decide ((n : Int) < 0) = false := by simp
  have hd2 : decide ((l.length : Int) < n) = false := by simp; omega
  have j2 : (n : Int) ≤ l.length := by omega
  obtain ⟨y, hy⟩ : ∃ y, l.drop n = y := ⟨_, rfl⟩
  obtain ⟨x, hx⟩ : ∃ x, l.take n = x := ⟨_, rfl⟩
  have e1 : List.take (l.length - n) y = y := by rw [← hy]; exact List.take_of_length_le (by rw [List.length_drop]; omega)
  rw [hx, hy]
  go_enter Try.func19, Try.ntmps19
  go_wp2
  go_region
  go_wp2
  refine bodyPost_ret (v := .tuple #[.agg #[.string (bs y)], .string (bs x), .bool true]) (by simp [results, Try.results19, go_sem] <;> rfl) rfl ⟨rfl, ?_⟩
  (repeat (first | exact Below.refl _ _ | refine Below.drew ?_ | refine below_drewN ?_ _ | refine Below.alloc ?_ (by simp <;> omega) _ | refine Below.setCell ?_ (by simp <;> omega) _))
theorem rtake_no (l : List UInt8) (n : Int) (w : World) (_hl : l.length ≤ 9223372036854775807) (hn : n < 0 ∨ (0 ≤ n ∧ (l.length : Int) < n)) :
    Calls Try.prog 19 #[.agg #[.string (bs l)], .int .i64 n] w fun e w' => e = .returned (.tuple #[.agg #[.string (bs l)], .string (bs []), .bool false]) ∧ Below w.heap.size w w' := by
  rcases hn with hn | ⟨hn, hn2⟩
  · have hd : decide (n < 0) = true := by simpa using hn
    go_enter Try.func19, Try.ntmps19
    go_wp2
    refine bodyPost_ret (v := .tuple #[.agg #[.string (bs l)], .string (bs []), .bool false]) (by simp [results, Try.results19, go_sem] <;> rfl) rfl ⟨rfl, ?_⟩
    (repeat (first | exact Below.refl _ _ | refine Below.drew ?_ | refine below_drewN ?_ _ | refine Below.alloc ?_ (by simp <;> omega) _ | refine Below.setCell ?_ (by simp <;> omega) _))
  · have hd : decide (n < 0) = false := by simp; omega
    go_enter Try.func19, Try.ntmps19
    go_wp2
    refine bodyPost_ret (v := .tuple #[.agg #[.string (bs l)], .string (bs []), .bool false]) (by simp [results, Try.results19, go_sem] <;> rfl) rfl ⟨rfl, ?_⟩
    (repeat (first | exact Below.refl _ _ | refine Below.drew ?_ | refine below_drewN ?_ _ | refine Below.alloc ?_ (by simp <;> omega) _ | refine Below.setCell ?_ (by simp <;> omega) _))

theorem rnumber_no (l : List UInt8) (k : Int) (w : World) (hl : l.length ≤ 9223372036854775807) (hk : okAt l.length 0 k = false) :
    Calls Try.prog 21 #[.agg #[.string (bs l)], .int .i64 k] w fun e w' => e = .returned (.tuple #[.agg #[.string (bs l)], .int .u32 0, .bool false]) ∧ Below w.heap.size w w' := by
  have HK := hide hk; clear hk
  go_enter Try.func21, Try.ntmps21
  go_wp2_with (go_at_call 14; refine (rget_no l 0 k _ hl HK.out).mono ?_; rintro e w' ⟨rfl, rfl⟩)
  refine bodyPost_ret (v := .tuple #[.agg #[.string (bs l)], .int .u32 0, .bool false]) (by simp [results, Try.results21, go_sem] <;> rfl) rfl ⟨rfl, ?_⟩
  (repeat (first | exact Below.refl _ _ | refine Below.drew ?_ | refine below_drewN ?_ _ | refine Below.alloc ?_ (by simp <;> omega) _ | refine Below.setCell ?_ (by simp <;> omega) _))
theorem rnumber_yes (l : List UInt8) (k : Nat) (w : World) (hl : l.length ≤ 9223372036854775807) (hk : okAt l.length 0 k = true) :
    Calls Try.prog 21 #[.agg #[.string (bs l)], .int .i64 k] w fun e w' => e = .returned (.tuple #[.agg #[.string (bs (l.drop k))], .int .u32 (gotN l 0 k : Nat), .bool true]) ∧ Below w.heap.size w w' := by
  have hg := rget_any l 0 k w hl
  have j2 : (k : Int) ≤ l.length := by have := (okAt_true hk).2.2; omega
  have HG : Hid (∀ W, Calls Try.prog 14 #[.string (bs l), .int .i64 0, .int .i64 k] W fun e w' => e = .returned (.tuple #[.int .u32 (gotN l 0 k : Nat), .bool true]) ∧ W = w') := fun W => by
    have := rget_any l 0 k W hl; rwa [hk] at this
  clear hg hk
  obtain ⟨y, hy⟩ : ∃ y, l.drop k = y := ⟨_, rfl⟩
  have e1 : List.take (l.length - k) y = y := by rw [← hy]; exact List.take_of_length_le (by rw [List.length_drop]; omega)
  rw [hy]
  go_enter Try.func21, Try.ntmps21
  go_wp2_with (go_at_call 14; refine (HG.out _).mono ?_; rintro e w' ⟨rfl, rfl⟩)
  refine bodyPost_ret (v := .tuple #[.agg #[.string (bs y)], .int .u32 (gotN l 0 k : Nat), .bool true]) (by simp [results, Try.results21, go_sem] <;> rfl) rfl ⟨rfl, ?_⟩
  (repeat (first | exact Below.refl _ _ | refine Below.drew ?_ | refine below_drewN ?_ _ | refine Below.alloc ?_ (by simp <;> omega) _ | refine Below.setCell ?_ (by simp <;> omega) _))
theorem rtake_any (l : List UInt8) (n : Int) (w : World) (hl : l.length ≤ 9223372036854775807) :
    Calls Try.prog 19 #[.agg #[.string (bs l)], .int .i64 n] w fun e w' => e = .returned (.tuple #[.agg #[.string (bs (drT l n))], .string (bs (tkT l n)), .bool (okT l n)]) ∧ Below w.heap.size w w' := by
  by_cases hk : okT l n = true
  · have h1 := okT_true hk
    obtain ⟨n, rfl⟩ := Int.eq_ofNat_of_zero_le h1.1
    unfold tkT drT
    rw [hk, if_pos rfl, if_pos rfl]
    exact rtake_yes l n w hl (by omega)
  · have hk' : okT l n = false := by simpa using hk
    unfold tkT drT
    rw [hk', if_neg (by simp), if_neg (by simp)]
    exact rtake_no l n w hl (okT_false hk')
theorem rnumber_any (l : List UInt8) (k : Int) (w : World) (hl : l.length ≤ 9223372036854775807) :
    Calls Try.prog 21 #[.agg #[.string (bs l)], .int .i64 k] w fun e w' => e = .returned (.tuple #[.agg #[.string (bs (drN l k))], .int .u32 (gotN l 0 k : Nat), .bool (okAt l.length 0 k)]) ∧ Below w.heap.size w w' := by
  by_cases hk : okAt l.length 0 k = true
  · have hk4 := wd_true (okAt_true hk).1
    obtain ⟨k, rfl⟩ := Int.eq_ofNat_of_zero_le (show 0 ≤ k by omega)
    unfold drN
    rw [hk, if_pos rfl]
    exact rnumber_yes l k w hl hk
  · have hk' : okAt l.length 0 k = false := by simpa using hk
    unfold drN gotN
    rw [hk', if_neg (by simp), if_neg (by simp)]
    exact rnumber_no l k w hl hk'
end Go.Proofs.Ytopfbiecdoemcaa
