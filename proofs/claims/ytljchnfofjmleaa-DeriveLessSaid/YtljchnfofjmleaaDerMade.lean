/-
  Walk of layer 5's made: a capability, that is valid if all of what is asked is so.
-/
import Derived.Test.YtljchnfofjmleaaCapSound
namespace Go.Proofs.Ytljchnfofjmleaa
open Go.RowKit
attribute [local go_sem ↓] Go.wp_at_zero Go.wp_at_succ

/-- Are the first k answers yes? -/
def accB (b : Nat → Bool) : Nat → Bool
  | 0 => true
  | k + 1 => accB b k && b k
/-- What is asked: function values in a row, each of which answers b j in whatever later world. -/
structure Asked (w : World) (g n : Nat) (F : Nat → FuncId) (fi ca : Nat → Array Value) (b : Nat → Bool) : Prop where
  cell : ∀ j, j < n → w.cell? ⟨g, j, none⟩ = some (.func (.func (F j)) (fi j) (ca j))
  calls : ∀ j, j < n → ∀ W, Below w.heap.size w W → Calls Try.prog (F j) (fi j ++ ca j) W fun e W' => e = .returned (.bool (b j)) ∧ Below W.heap.size W W'
  runs : ∀ j, j < n → ∀ W, (callFunc (F j) (fi j ++ ca j)).run Try.prog W = .ok (.enter (F j) (fi j ++ ca j)) W
  lt : g < w.heap.size
def MadeA (w wr : World) (cC cE cB cT cP cY cR : Nat) (n : Nat) (b : Nat → Bool) (i : Value) : Prop :=
  ∃ k : Nat, k ≤ n ∧ i = .int .i64 k ∧ Blk wr w.heap.size 25 #[.int .u32 cC, .int .u8 cE, .int .u16 cB, .int .u16 cT, .int .u16 cP, .int .u16 cY, .int .u32 cR, .bool (accB b k)] ∧
    Blk wr (w.heap.size + 1) 25 #[.int .u32 0, .int .u8 0, .int .u16 0, .int .u16 0, .int .u16 0, .int .u16 0, .int .u32 0, .bool false] ∧ Below w.heap.size w wr

set_option maxHeartbeats 1000000 in
theorem made_any (cC cE cB cT cP cY cR : Nat) (cV : Bool) (g n : Nat) (F : Nat → FuncId) (fi ca : Nat → Array Value) (b : Nat → Bool) (w : World) (hn : n ≤ 1000) (h : Asked w g n F fi ca b) :
    Calls Try.prog 41 #[.agg #[.int .u32 cC, .int .u8 cE, .int .u16 cB, .int .u16 cT, .int .u16 cP, .int .u16 cY, .int .u32 cR, .bool cV], .slice (some ⟨g, 0, none⟩) n n] w fun e w' => e = .returned (.agg #[.int .u32 cC, .int .u8 cE, .int .u16 cB, .int .u16 cT, .int .u16 cP, .int .u16 cY, .int .u32 cR, .bool (accB b n)]) ∧ Below w.heap.size w w' := by
  have H := hide h; clear h
  go_enter Try.func41, Try.ntmps41
  go_wp2
  go_loopw [10] (fun i wr => MadeA w wr cC cE cB cT cP cY cR n b i) (fun i _ => n - (intOf i).toNat)
  case atStart => exact ⟨0, by omega, rfl, Blk.new1 w _ _ _, Blk.new2 w _ _ _, ((Below.refl _ _).alloc (Nat.le_refl _) _).alloc (by simp) _⟩
  case round =>
    obtain ⟨k, hk, rfl, hq1, hq2, hb⟩ := hrel
    have f7 := hq1.cell 7
    have z7 := hq1.frozen 7
    have HQ1 := hide hq1
    have HQ2 := hide hq2
    have HB := hide hb
    simp at f7
    by_cases hlt : k < n
    · have cg := (hb.cell (p := ⟨g, k, none⟩) H.out.lt).trans (H.out.cell k hlt)
      have hrun := H.out.runs k hlt
      have HC := hide (H.out.calls k hlt wr hb)
      clear hq1 hq2 hb
      obtain ⟨acc, hacc⟩ : ∃ a, accB b k = a := ⟨_, rfl⟩
      have HA : Hid (accB b (k + 1) = (acc && b k)) := by show _ = _; rw [accB, hacc]
      rw [hacc] at f7 HQ1
      clear hacc
      have i1 : (k : Int) < n := by omega
      cases acc with
      | true =>
        go_wp2_with fail
        refine HC.out.mono ?_
        rintro e w2 ⟨rfl, hb2⟩
        have q1 := HQ1.out.below hb2 HQ1.out.lt
        have q2 := HQ2.out.below hb2 HQ2.out.lt
        have k2 := HB.out.trans (hb2.mono HB.out.size)
        have g7 := q1.cell 7
        have y7 := q1.frozen 7
        simp at g7
        rw [Bool.true_and] at HA
        obtain ⟨r, hr⟩ : ∃ r, b k = r := ⟨_, rfl⟩
        rw [hr] at HA ⊢
        have R1 : Hid (Blk (w2.setCell ⟨w.heap.size, 7, none⟩ (.bool r)) w.heap.size 25 #[.int .u32 cC, .int .u8 cE, .int .u16 cB, .int .u16 cT, .int .u16 cP, .int .u16 cY, .int .u32 cR, .bool r]) := q1.set_ 7 _
        have R2 : Hid (Blk (w2.setCell ⟨w.heap.size, 7, none⟩ (.bool r)) (w.heap.size + 1) 25 #[.int .u32 0, .int .u8 0, .int .u16 0, .int .u16 0, .int .u16 0, .int .u16 0, .int .u32 0, .bool false]) := q2.far (p := ⟨w.heap.size, 7, none⟩) (show w.heap.size + 1 ≠ w.heap.size by omega) _
        have R3 : Hid (Below w.heap.size w (w2.setCell ⟨w.heap.size, 7, none⟩ (.bool r))) := k2.setCell (p := ⟨w.heap.size, 7, none⟩) (Nat.le_refl _) _
        clear hb2 q1 q2 k2 hr hrun
        go_wp2
        go_roundw
        case rel => exact ⟨k + 1, by omega, by go_num, by rw [HA.out]; exact R1.out, R2.out, R3.out⟩
        case measure => simp [intOf]; omega
      | false =>
        rw [Bool.false_and] at HA
        have R1 : Hid (Blk (wr.setCell ⟨w.heap.size, 7, none⟩ (.bool false)) w.heap.size 25 #[.int .u32 cC, .int .u8 cE, .int .u16 cB, .int .u16 cT, .int .u16 cP, .int .u16 cY, .int .u32 cR, .bool false]) := HQ1.out.set_ 7 _
        have R2 : Hid (Blk (wr.setCell ⟨w.heap.size, 7, none⟩ (.bool false)) (w.heap.size + 1) 25 #[.int .u32 0, .int .u8 0, .int .u16 0, .int .u16 0, .int .u16 0, .int .u16 0, .int .u32 0, .bool false]) := HQ2.out.far (p := ⟨w.heap.size, 7, none⟩) (show w.heap.size + 1 ≠ w.heap.size by omega) _
        have R3 : Hid (Below w.heap.size w (wr.setCell ⟨w.heap.size, 7, none⟩ (.bool false))) := HB.out.setCell (p := ⟨w.heap.size, 7, none⟩) (Nat.le_refl _) _
        clear hrun
        go_wp2
        go_roundw
        case rel => exact ⟨k + 1, by omega, by go_num, by rw [HA.out]; exact R1.out, R2.out, R3.out⟩
        case measure => simp [intOf]; omega
    · obtain rfl : k = n := by omega
      obtain ⟨acc, hacc⟩ : ∃ a, accB b k = a := ⟨_, rfl⟩
      rw [hacc] at HQ1 f7
      have HACC := hide hacc
      have q1 := HQ1.out
      have q2 := HQ2.out
      clear hq1 hq2 hb hacc
      have c0 := q1.cell 0
      have d0 := q2.cell 0
      have z0 := q2.frozen 0
      have c1 := q1.cell 1
      have d1 := q2.cell 1
      have z1 := q2.frozen 1
      have c2 := q1.cell 2
      have d2 := q2.cell 2
      have z2 := q2.frozen 2
      have c3 := q1.cell 3
      have d3 := q2.cell 3
      have z3 := q2.frozen 3
      have c4 := q1.cell 4
      have d4 := q2.cell 4
      have z4 := q2.frozen 4
      have c5 := q1.cell 5
      have d5 := q2.cell 5
      have z5 := q2.frozen 5
      have c6 := q1.cell 6
      have d6 := q2.cell 6
      have z6 := q2.frozen 6
      have c7 := q1.cell 7
      have d7 := q2.cell 7
      have z7 := q2.frozen 7
      simp at c0 c1 c2 c3 c4 c5 c6 c7 d0 d1 d2 d3 d4 d5 d6 d7
      clear q1 q2
      go_wp2
      refine bodyPost_ret (v := .agg #[.int .u32 cC, .int .u8 cE, .int .u16 cB, .int .u16 cT, .int .u16 cP, .int .u16 cY, .int .u32 cR, .bool acc]) (by simp [results, Try.results41, go_sem, d0, d1, d2, d3, d4, d5, d6, d7]) rfl ⟨by rw [HACC.out], ?_⟩
      repeat (refine Below.setCell ?_ (by simp <;> omega) _)
      exact HB.out
end Go.Proofs.Ytljchnfofjmleaa
