/-
  Walks of layer 3 (bounds): the closures of tell, and tell.
-/
import Derived.Test.YtljchnfofjmleaaProg
import Derived.Test.YtljchnfofjmleaaBase
import Derived.Test.YtljchnfofjmleaaBndNum
import Derived.WalkKit
import Derived.WalkSpells
import Derived.WalkLawsBesides
import Derived.Laws.EntriesVeiled
import Derived.Outline
import Derived.Deep.QuietTactic
import Derived.BigQuiet
import Derived.Deep.RegionHeld3
import Derived.Lib.Hide
import Derived.KernelRfl
namespace Go.Proofs.Ytljchnfofjmleaa
open Go.RowKit

theorem ret2_both {k k' : IntKind} {a b c d : Int} (h : a = b) (h' : c = d) : Ending.returned (.tuple #[.int k a, .int k' c]) = .returned (.tuple #[.int k b, .int k' d]) := by rw [h, h']
theorem turn_any (x edge : Nat) (a : Addr) (w : World) (hc : w.cell? a = some (.int .u16 edge)) :
    Calls Try.prog 73 #[.int .u16 x, .pointer (some a)] w fun e w' => e = .returned (.int .i64 (turnN x edge : Nat)) ∧ w = w' := by
  by_cases h : (x : Int) < edge
  · have e : turnN x edge = 1 := by unfold turnN; rw [if_pos (by omega)]
    rw [e]
    go_enter Try.func73, Try.ntmps73
    go_wp2
    go_ret
    exact ⟨rfl, rfl⟩
  · have e : turnN x edge = 0 := by unfold turnN; rw [if_neg (by omega)]
    rw [e]
    go_enter Try.func73, Try.ntmps73
    go_wp2
    go_ret
    exact ⟨rfl, rfl⟩
theorem rturn_any (x edge : Int) (w : World) :
    Calls Try.prog 76 #[.int .i64 x, .int .i64 edge] w fun e w' => e = .returned (.int .i64 (if x < edge then 1 else 0)) ∧ w = w' := by
  by_cases h : x < edge
  · rw [if_pos h]
    go_enter Try.func76, Try.ntmps76
    go_wp2
    go_ret
    exact ⟨rfl, rfl⟩
  · rw [if_neg h]
    go_enter Try.func76, Try.ntmps76
    go_wp2
    go_ret
    exact ⟨rfl, rfl⟩
theorem of_any (x b e c : Nat) (high r : Int) (edge : Nat) (hr : ofN e b c x = r) (hi : highN e b c = high) (hed : edgeN b = edge) (ah at_ ae ed : Addr) (w : World) (hx : x < 65536) (he : e ≤ 21) (hc : c < 4294967296)
    (h1 : w.cell? ah = some (.int .i64 high)) (h2 : w.cell? at_ = some (.func (.func 73) #[] #[.pointer (some ed)])) (h3 : w.cell? ae = some (.int .u8 e)) (h4 : w.cell? ed = some (.int .u16 edge)) :
    Calls Try.prog 74 #[.int .u16 x, .pointer (some ah), .pointer (some at_), .pointer (some ae)] w fun e' w' => e' = .returned (.int .i64 r) ∧ ∃ m, w' = w.drewN m := by
  have hh := high_bd (e := e) (b := b) hc
  have ho := of_bd (e := e) (b := b) (x := x) hc hx
  have ht := turnN_le x (edgeN b)
  have hw := mul_pow_bd he _ ho.1 ho.2
  have HO : Hid (wrap64 (((highN e b c + (turnN x (edgeN b) : Nat)) * 4096 + x) * 2 ^ e) = r) := by
    show _ = _
    rw [IntWalk.wrap64_in _ hw]; exact hr
  rw [hed] at ho ht HO
  rw [hi] at hh ho HO
  clear hw hed hi hr
  have ht2 : (0 : Int) ≤ (turnN x edge : Nat) ∧ ((turnN x edge : Nat) : Int) ≤ 1 := by omega
  go_enter Try.func74, Try.ntmps74
  go_wp2_with fail
  go_quiet ((go_at_call 73; refine quiet_left (turn_any x edge _ _ ?_); exact h4))
  go_wp2
  go_ret
  exact ⟨ret_int HO.out, _, rfl⟩

theorem tell_no (e b t c : Nat) (w : World) (h : mayN e b t = false) (hb : b < 65536) (ht : t < 65536) (he : e < 256) :
    Calls Try.prog 65 #[.int .u8 e, .int .u16 b, .int .u16 t, .int .u32 c] w fun e' w' => e' = .returned (.tuple #[.agg #[.int .i64 0, .int .i64 0], .bool false]) ∧ Below w.heap.size w w' := by
  have hcase : (21 : Int) < e ∨ ((e : Int) ≤ 21 ∧ (4095 : Int) < b) ∨ ((e : Int) ≤ 21 ∧ (b : Int) ≤ 4095 ∧ (4095 : Int) < t) := by
    by_cases h1 : e ≤ 21
    · by_cases h2 : b < 4096
      · by_cases h3 : t < 4096
        · rw [mayN_mk h1 h2 h3] at h; cases h
        · omega
      · omega
    · omega
  have H := hide h; clear h
  rcases hcase with h1 | ⟨h1, h2⟩ | ⟨h1, h2, h3⟩
  · go_enter Try.func65, Try.ntmps65
    go_wp2
    refine bodyPost_ret (v := .tuple #[.agg #[.int .i64 0, .int .i64 0], .bool false]) (by simp [results, Try.results65, go_sem] <;> rfl) rfl ⟨rfl, ?_⟩
    (repeat (first | exact Below.refl _ _ | refine Below.drew ?_ | refine below_drewN ?_ _ | refine Below.alloc ?_ (by simp <;> omega) _ | refine Below.setCell ?_ (by simp <;> omega) _))
  · have d1 : decide ((21 : Int) < e) = false := by simp; omega
    go_enter Try.func65, Try.ntmps65
    go_wp2
    refine bodyPost_ret (v := .tuple #[.agg #[.int .i64 0, .int .i64 0], .bool false]) (by simp [results, Try.results65, go_sem] <;> rfl) rfl ⟨rfl, ?_⟩
    (repeat (first | exact Below.refl _ _ | refine Below.drew ?_ | refine below_drewN ?_ _ | refine Below.alloc ?_ (by simp <;> omega) _ | refine Below.setCell ?_ (by simp <;> omega) _))
  · have d1 : decide ((21 : Int) < e) = false := by simp; omega
    have d2 : decide ((4095 : Int) < b) = false := by simp; omega
    go_enter Try.func65, Try.ntmps65
    go_wp2
    refine bodyPost_ret (v := .tuple #[.agg #[.int .i64 0, .int .i64 0], .bool false]) (by simp [results, Try.results65, go_sem] <;> rfl) rfl ⟨rfl, ?_⟩
    (repeat (first | exact Below.refl _ _ | refine Below.drew ?_ | refine below_drewN ?_ _ | refine Below.alloc ?_ (by simp <;> omega) _ | refine Below.setCell ?_ (by simp <;> omega) _))

set_option maxHeartbeats 1000000 in
theorem tell_yes (e b t c : Nat) (w : World) (he : e ≤ 21) (hb : b < 4096) (ht0 : t < 4096) (hc : c < 4294967296) :
    Calls Try.prog 65 #[.int .u8 e, .int .u16 b, .int .u16 t, .int .u32 c] w fun e' w' => e' = .returned (.tuple #[.agg #[.int .i64 (tellB e b t c), .int .i64 (tellT e b t c)], .bool (tellOk e b t c)]) ∧ Below w.heap.size w w' := by
  obtain ⟨B, hB⟩ : ∃ B, ofN e b c b = B := ⟨_, rfl⟩
  obtain ⟨T, hT⟩ : ∃ T, ofN e b c t = T := ⟨_, rfl⟩
  have hmay := mayN_mk he hb ht0
  have hok : tellOk e b t c = (decide (0 ≤ B) && decide (B ≤ T) && decide (T ≤ 4294967296)) := by
    unfold tellOk tellB tellT
    rw [hmay, if_pos rfl, if_pos rfl, hB, hT]; rfl
  have hB2 : tellB e b t c = B := by unfold tellB; rw [if_pos hmay, hB]
  have hT2 : tellT e b t c = T := by unfold tellT; rw [if_pos hmay, hT]
  rw [hok, hB2, hT2]
  clear hmay hok hB2 hT2
  have HB := hide hB; clear hB
  have HT := hide hT; clear hT
  have d1 : decide ((21 : Int) < e) = false := by simp; omega
  have d2 : decide ((4095 : Int) < b) = false := by simp; omega
  have d3 : decide ((4095 : Int) < t) = false := by simp; omega
  obtain ⟨q, hq⟩ : ∃ q, c / 2 ^ e = q := ⟨_, rfl⟩
  have hql : q < 4294967296 := by rw [← hq]; exact Nat.lt_of_le_of_lt (Nat.div_le_self _ _) hc
  have hqi : (c : Int) / 2 ^ e = (q : Int) := by rw [← hq]; simp
  have hmb := mid_bits q hql
  obtain ⟨m, hm⟩ : ∃ m, q % 4096 = m := ⟨_, rfl⟩
  have hml : m < 4096 := by omega
  have heb := edge_bits b hb
  obtain ⟨edge, hed⟩ : ∃ k, edgeN b = k := ⟨_, rfl⟩
  have hel : edge < 4096 := by rw [← hed]; unfold edgeN; omega
  have ht := turnN_le m edge
  have HH : Hid (highN e b c = (q : Int) / 4096 - (turnN m edge : Nat)) := by
    show _ = _
    unfold highN; rw [hq, hm, hed]; omega
  rw [hm] at hmb
  rw [hed] at heb
  have HQ := hide hq; clear hq
  have HM := hide hm; clear hm
  have HE := hide hed; clear hed
  have ht2 : (0 : Int) ≤ (turnN m edge : Nat) ∧ ((turnN m edge : Nat) : Int) ≤ 1 := by omega
  go_enter Try.func65, Try.ntmps65
  go_wp2_with fail
  refine (turn_any m edge _ _ (by simp [go_sem])).mono ?_
  rintro e' w' ⟨rfl, rfl⟩
  go_wp2_with fail
  refine (of_any b b e c _ B edge HB.out HH.out HE.out _ _ _ ⟨w.heap.size + 1 + 1, 0, none⟩ _ (by omega) he hc ?_ ?_ ?_ ?_).mono ?_
  · simp [go_sem]
  · simp [go_sem]
  · simp [go_sem]
  · simp [go_sem]
  rintro e' w' ⟨rfl, m1, rfl⟩
  go_wp2_with fail
  refine (of_any t b e c _ T edge HT.out HH.out HE.out _ _ _ ⟨w.heap.size + 1 + 1, 0, none⟩ _ (by omega) he hc ?_ ?_ ?_ ?_).mono ?_
  · simp [go_sem]
  · simp [go_sem]
  · simp [go_sem]
  · simp [go_sem]
  rintro e' w' ⟨rfl, m2, rfl⟩
  go_wp2_with fail
  by_cases c1 : 0 ≤ B
  · by_cases c2 : B ≤ T
    · go_region
      go_wp2
      refine bodyPost_ret (v := .tuple #[.agg #[.int .i64 B, .int .i64 T], .bool (decide (T ≤ 4294967296))]) (by simp [results, Try.results65, go_sem] <;> rfl) rfl ⟨?_, ?_⟩
      · simp [c1, c2]
      · (repeat (first | exact Below.refl _ _ | refine Below.drew ?_ | refine below_drewN ?_ _ | refine Below.alloc ?_ (by simp <;> omega) _ | refine Below.setCell ?_ (by simp <;> omega) _))
    · have d4 : decide (B ≤ T) = false := by simpa using c2
      go_region
      go_wp2
      refine bodyPost_ret (v := .tuple #[.agg #[.int .i64 B, .int .i64 T], .bool false]) (by simp [results, Try.results65, go_sem] <;> rfl) rfl ⟨?_, ?_⟩
      · simp
      · (repeat (first | exact Below.refl _ _ | refine Below.drew ?_ | refine below_drewN ?_ _ | refine Below.alloc ?_ (by simp <;> omega) _ | refine Below.setCell ?_ (by simp <;> omega) _))
  · have d4 : decide (0 ≤ B) = false := by simpa using c1
    go_region
    go_wp2
    refine bodyPost_ret (v := .tuple #[.agg #[.int .i64 B, .int .i64 T], .bool false]) (by simp [results, Try.results65, go_sem] <;> rfl) rfl ⟨?_, ?_⟩
    · simp
    · (repeat (first | exact Below.refl _ _ | refine Below.drew ?_ | refine below_drewN ?_ _ | refine Below.alloc ?_ (by simp <;> omega) _ | refine Below.setCell ?_ (by simp <;> omega) _))
theorem tell_any (e b t c : Nat) (w : World) (he : e < 256) (hb : b < 65536) (ht : t < 65536) (hc : c < 4294967296) :
    Calls Try.prog 65 #[.int .u8 e, .int .u16 b, .int .u16 t, .int .u32 c] w fun e' w' => e' = .returned (.tuple #[.agg #[.int .i64 (tellB e b t c), .int .i64 (tellT e b t c)], .bool (tellOk e b t c)]) ∧ Below w.heap.size w w' := by
  by_cases h : mayN e b t = true
  · obtain ⟨h1, h2, h3⟩ := mayN_true h
    exact tell_yes e b t c w h1 h2 h3 hc
  · have h' : mayN e b t = false := by simpa using h
    have e1 : tellB e b t c = 0 := by unfold tellB; rw [if_neg h]
    have e2 : tellT e b t c = 0 := by unfold tellT; rw [if_neg h]
    have e3 : tellOk e b t c = false := by unfold tellOk; rw [h']; rfl
    rw [e1, e2, e3]
    exact tell_no e b t c w h' hb ht he
end Go.Proofs.Ytljchnfofjmleaa
