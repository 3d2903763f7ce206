/-
  Walk of the document's Set.
-/
import Derived.Test.YtopfbiecdoemcaaOctRef
import Derived.Test.YtopfbiecdoemcaaBytes
import Derived.Deep.RegionHeld3
import Derived.Deep.RegionWith
import Derived.BigRegion
namespace Go.Proofs.Ytopfbiecdoemcaa
open Go.RowKit
theorem rset_no (l : List UInt8) (a k : Int) (v : Nat) (w : World) (hm : l.length ≤ 9223372036854775807) (h : okAt l.length a k = false) :
    Calls Try.prog 16 #[.string (bs l), .int .i64 a, .int .i64 k, .int .u32 v] w fun e w' => e = .returned (.tuple #[.string (bs l), .bool false]) ∧ w = w' := by
  go_enter Try.func16, Try.ntmps16
  go_wp2_with (go_at_call 25; refine (within_no _ _ _ _ hm h).mono ?_; rintro e w' ⟨rfl, rfl⟩)
  go_ret2
  exact ⟨rfl, rfl⟩
theorem rset_yes (l : List UInt8) (a k : Nat) (v : Nat) (w : World) (hm : l.length ≤ 100000) (hv : v < 4294967296) (h : okAt l.length a k = true) :
    Calls Try.prog 16 #[.string (bs l), .int .i64 a, .int .i64 k, .int .u32 v] w fun e w' => e = .returned (.tuple #[.string (bs (l.take a ++ (toLE k v ++ l.drop (a + k)))), .bool true]) ∧ Below w.heap.size w w' := by
  have hwd := (okAt_true h).1
  have hk4 := wd_true hwd
  have hle := (okAt_true h).2.2
  have HH := hide h; clear h
  have ep : putN [] (k : Int) v = toLE k v := by unfold putN; rw [if_pos hwd]; rfl
  have HW := hide hwd; clear hwd
  have EP := hide ep; clear ep
  obtain ⟨z, hz⟩ : ∃ z, toLE k v = z := ⟨_, rfl⟩
  have hz4 : z.length ≤ 4 := by rw [← hz, toLE_length]; omega
  obtain ⟨x, hx⟩ : ∃ x, l.take a = x := ⟨_, rfl⟩
  have hx4 : x.length ≤ 100000 := by rw [← hx, List.length_take]; omega
  obtain ⟨y, hy⟩ : ∃ y, l.drop (a + k) = y := ⟨_, rfl⟩
  have hy4 : y.length ≤ 100000 := by rw [← hy, List.length_drop]; omega
  have e1 : List.take (l.length - (a + k)) y = y := by rw [← hy]; exact List.take_of_length_le (by rw [List.length_drop]; omega)
  rw [hz, hx, hy]
  have i1 : (a : Int) ≤ (l.length : Int) := by omega
  have i2 : 0 ≤ (a : Int) + k := by omega
  have i3 : (a : Int) + k ≤ (l.length : Int) := by omega
  have i4 : IntKind.i64.wrap ((a : Int) + k) = (a : Int) + k := IntWalk.i64_in _ (by omega)
  have i5 : ((a : Int) + k).toNat = a + k := by omega
  have i6 : ¬ (9223372036854775807 < x.length + z.length) := by omega
  have i7 : ¬ (9223372036854775807 < x.length + z.length + y.length) := by omega
  rw [hz] at EP
  go_enter Try.func16, Try.ntmps16
  go_wp2_with (go_at_call 25; refine (within_yes _ _ _ _ (by omega) HH.out).mono ?_; rintro e w' ⟨rfl, rfl⟩)
  go_region_held3 (fun _ => True) (trivial) ((go_at_call 11; refine (rput_any [] k v _ hv (by simp)).mono ?_; rintro e w1 ⟨rfl, hb1⟩; rw [EP.out]))
  have HB1 := hide hb1; clear hb1
  go_wp2
  go_ret2
  exact ⟨rfl, below_of_drew HB1.out⟩
theorem rset_any (l : List UInt8) (a k : Int) (v : Nat) (w : World) (hm : l.length ≤ 100000) (hv : v < 4294967296) :
    Calls Try.prog 16 #[.string (bs l), .int .i64 a, .int .i64 k, .int .u32 v] w fun e w' => e = .returned (.tuple #[.string (bs (setN l a k v)), .bool (okAt l.length a k)]) ∧ Below w.heap.size w w' := by
  by_cases hk : okAt l.length a k = true
  · obtain ⟨hw, h0, _⟩ := okAt_true hk
    have hk4 := wd_true hw
    obtain ⟨a, rfl⟩ := Int.eq_ofNat_of_zero_le h0
    obtain ⟨k, rfl⟩ := Int.eq_ofNat_of_zero_le (show 0 ≤ k by omega)
    have e : setN l (a : Int) (k : Int) v = l.take a ++ (toLE k v ++ l.drop (a + k)) := by
      unfold setN; rw [if_pos hk, show ((a : Int) + k).toNat = a + k by omega]; rfl
    rw [e, hk]
    exact rset_yes l a k v w hm hv hk
  · have hk' : okAt l.length a k = false := by simpa using hk
    have e : setN l a k v = l := by unfold setN; rw [if_neg hk]
    rw [hk', e]
    exact (rset_no l a k v w (by omega) hk').mono fun _ _ ⟨he, hw⟩ => ⟨he, hw ▸ Below.refl _ _⟩
end Go.Proofs.Ytopfbiecdoemcaa
