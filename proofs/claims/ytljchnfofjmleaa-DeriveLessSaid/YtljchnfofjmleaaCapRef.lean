/-
  Walks of the document's answer for layer 4: Range, Holds, Meets, Within, IsNumber, Sound, Make.
-/
import Derived.Test.YtljchnfofjmleaaCapC
import Derived.Test.YtljchnfofjmleaaBndRef2
namespace Go.Proofs.Ytljchnfofjmleaa
open Go.RowKit
attribute [local go_sem ↓] Go.wp_at_zero Go.wp_at_succ

theorem rrange_is (cC cE cB cT cP cY cR : Nat) (cV : Bool) (x y : Nat) (w : World) (cl : capB cC cE cB cT cP cY cR) (hx : (decN cE cB cT cC).1 = x) (hy : (decN cE cB cT cC).2 = y) :
    Calls Try.prog 64 #[.agg #[.int .u32 cC, .int .u8 cE, .int .u16 cB, .int .u16 cT, .int .u16 cP, .int .u16 cY, .int .u32 cR, .bool cV]] w fun e' w' => e' = .returned (.tuple #[.int .u32 x, .int .u64 y]) ∧ Below w.heap.size w w' := by
  have HD : Hid (∀ W, Calls Try.prog 72 #[.int .u8 cE, .int .u16 cB, .int .u16 cT, .int .u32 cC] W fun e' w' => e' = .returned (.tuple #[.int .u32 x, .int .u64 y]) ∧ W = w') := fun W => by
    have := rdecode_any cE cB cT cC W cl.2.1 cl.2.2.1 cl.2.2.2.1 cl.1
    rwa [hx, hy] at this
  clear hx hy
  go_enter Try.func64, Try.ntmps64
  go_wp2_with fail
  refine (HD.out _).mono ?_
  rintro e' w1 ⟨rfl, rfl⟩
  go_wp2
  go_ret2
  exact ⟨rfl, by (repeat (first | exact Below.refl _ _ | refine Below.drew ?_ | refine below_drewN ?_ _ | refine Below.alloc ?_ (by simp <;> omega) _ | refine Below.setCell ?_ (by simp <;> omega) _))⟩

theorem rwithin_any (aC aE aB aT aP aY aR : Nat) (aV : Bool) (bC bE bB bT bP bY bR : Nat) (bV : Bool) (x y u v : Nat) (w : World) (al : capB aC aE aB aT aP aY aR) (bl : capB bC bE bB bT bP bY bR) (hx : (decN aE aB aT aC).1 = x) (hy : (decN aE aB aT aC).2 = y) (hu : (decN bE bB bT bC).1 = u) (hv : (decN bE bB bT bC).2 = v) :
    Calls Try.prog 54 #[.agg #[.int .u32 aC, .int .u8 aE, .int .u16 aB, .int .u16 aT, .int .u16 aP, .int .u16 aY, .int .u32 aR, .bool aV], .agg #[.int .u32 bC, .int .u8 bE, .int .u16 bB, .int .u16 bT, .int .u16 bP, .int .u16 bY, .int .u32 bR, .bool bV]] w fun e' w' => e' = .returned (.bool (withinN aP bP x y u v)) ∧ Below w.heap.size w w' := by
  have HA : Hid (∀ W, Calls Try.prog 64 #[.agg #[.int .u32 aC, .int .u8 aE, .int .u16 aB, .int .u16 aT, .int .u16 aP, .int .u16 aY, .int .u32 aR, .bool aV]] W fun e' w' => e' = .returned (.tuple #[.int .u32 x, .int .u64 y]) ∧ Below W.heap.size W w') := fun W => rrange_is aC aE aB aT aP aY aR aV x y W al hx hy
  have HB : Hid (∀ W, Calls Try.prog 64 #[.agg #[.int .u32 bC, .int .u8 bE, .int .u16 bB, .int .u16 bT, .int .u16 bP, .int .u16 bY, .int .u32 bR, .bool bV]] W fun e' w' => e' = .returned (.tuple #[.int .u32 u, .int .u64 v]) ∧ Below W.heap.size W w') := fun W => rrange_is bC bE bB bT bP bY bR bV u v W bl hu hv
  have hs := sub_and al.2.2.2.2.1 bl.2.2.2.2.1
  have hxl : x < 4294967296 := by rw [← hx]; exact (dec_lt _ _ _ _).1
  have hul : u < 4294967296 := by rw [← hu]; exact (dec_lt _ _ _ _).1
  rw [within_eq]
  clear hx hy hu hv
  obtain ⟨k, hk⟩ : ∃ k, subP aP bP = k := ⟨_, rfl⟩
  rw [hk] at hs ⊢
  clear hk
  cases k with
  | false =>
    rw [Bool.false_and]
    go_enter Try.func54, Try.ntmps54
    go_wp2_with fail
    refine (HA.out _).mono ?_
    rintro e' w1 ⟨rfl, hb1⟩
    obtain ⟨hc1, hf1⟩ := bcell hb1
    have hz1 := hb1.size
    simp at hz1
    have HB1 := hide hb1
    go_wp2_with fail
    refine (HB.out _).mono ?_
    rintro e' w2 ⟨rfl, hb2⟩
    have f0 : w2.cell? ⟨w.heap.size, 4, none⟩ = some (.int .u16 aP) := (((Blk.new1 w _ _ _).below hb1 (by simp; omega)).below hb2 (by omega)).cell 4
    have f1 : w2.cell? ⟨w.heap.size + 1, 4, none⟩ = some (.int .u16 bP) := (((Blk.new2 w _ _ _).below hb1 (by simp)).below hb2 (by omega)).cell 4
    have HB2 := hide hb2; clear hb2 hc1 hf1 hb1
    go_wp2
    go_ret
    exact ⟨rfl, ((((Below.refl _ _).alloc (Nat.le_refl _) _).alloc (by simp) _).trans (HB1.out.mono (by simp; omega))).trans (HB2.out.mono (by omega))⟩
  | true =>
    rw [Bool.true_and]
    by_cases c1 : y ≤ x
    · rw [decide_eq_true c1, Bool.true_or]
      go_enter Try.func54, Try.ntmps54
      go_wp2_with fail
      refine (HA.out _).mono ?_
      rintro e' w1 ⟨rfl, hb1⟩
      obtain ⟨hc1, hf1⟩ := bcell hb1
      have hz1 := hb1.size
      simp at hz1
      have HB1 := hide hb1
      go_wp2_with fail
      refine (HB.out _).mono ?_
      rintro e' w2 ⟨rfl, hb2⟩
      have f0 : w2.cell? ⟨w.heap.size, 4, none⟩ = some (.int .u16 aP) := (((Blk.new1 w _ _ _).below hb1 (by simp; omega)).below hb2 (by omega)).cell 4
      have f1 : w2.cell? ⟨w.heap.size + 1, 4, none⟩ = some (.int .u16 bP) := (((Blk.new2 w _ _ _).below hb1 (by simp)).below hb2 (by omega)).cell 4
      have HB2 := hide hb2; clear hb2 hc1 hf1 hb1
      go_wp2
      go_ret
      exact ⟨rfl, ((((Below.refl _ _).alloc (Nat.le_refl _) _).alloc (by simp) _).trans (HB1.out.mono (by simp; omega))).trans (HB2.out.mono (by omega))⟩
    · have d1 : decide (y ≤ x) = false := by simpa using c1
      rw [d1, Bool.false_or]
      by_cases c2 : u ≤ x
      · rw [decide_eq_true c2, Bool.true_and]
        go_enter Try.func54, Try.ntmps54
        go_wp2_with fail
        refine (HA.out _).mono ?_
        rintro e' w1 ⟨rfl, hb1⟩
        obtain ⟨hc1, hf1⟩ := bcell hb1
        have hz1 := hb1.size
        simp at hz1
        have HB1 := hide hb1
        go_wp2_with fail
        refine (HB.out _).mono ?_
        rintro e' w2 ⟨rfl, hb2⟩
        have f0 : w2.cell? ⟨w.heap.size, 4, none⟩ = some (.int .u16 aP) := (((Blk.new1 w _ _ _).below hb1 (by simp; omega)).below hb2 (by omega)).cell 4
        have f1 : w2.cell? ⟨w.heap.size + 1, 4, none⟩ = some (.int .u16 bP) := (((Blk.new2 w _ _ _).below hb1 (by simp)).below hb2 (by omega)).cell 4
        have HB2 := hide hb2; clear hb2 hc1 hf1 hb1
        go_wp2
        go_ret
        exact ⟨rfl, ((((Below.refl _ _).alloc (Nat.le_refl _) _).alloc (by simp) _).trans (HB1.out.mono (by simp; omega))).trans (HB2.out.mono (by omega))⟩
      · have d2 : decide (u ≤ x) = false := by simpa using c2
        rw [d2, Bool.false_and]
        go_enter Try.func54, Try.ntmps54
        go_wp2_with fail
        refine (HA.out _).mono ?_
        rintro e' w1 ⟨rfl, hb1⟩
        obtain ⟨hc1, hf1⟩ := bcell hb1
        have hz1 := hb1.size
        simp at hz1
        have HB1 := hide hb1
        go_wp2_with fail
        refine (HB.out _).mono ?_
        rintro e' w2 ⟨rfl, hb2⟩
        have f0 : w2.cell? ⟨w.heap.size, 4, none⟩ = some (.int .u16 aP) := (((Blk.new1 w _ _ _).below hb1 (by simp; omega)).below hb2 (by omega)).cell 4
        have f1 : w2.cell? ⟨w.heap.size + 1, 4, none⟩ = some (.int .u16 bP) := (((Blk.new2 w _ _ _).below hb1 (by simp)).below hb2 (by omega)).cell 4
        have HB2 := hide hb2; clear hb2 hc1 hf1 hb1
        go_wp2
        go_ret
        exact ⟨rfl, ((((Below.refl _ _).alloc (Nat.le_refl _) _).alloc (by simp) _).trans (HB1.out.mono (by simp; omega))).trans (HB2.out.mono (by omega))⟩

theorem renc_at_end (a s : Nat) (w : World) (ha : a < 4294967296) (h : a + s ≤ 4294967296) :
    Calls Try.prog 62 #[.int .u32 a, .int .u64 ((a : Int) + s)] w fun e' w' => e' = .returned (.tuple #[.int .u8 (encE a (a + s)), .int .u16 (encB a (a + s)), .int .u16 (encT a (a + s)), .bool (encX a (a + s)), .bool true]) ∧ ∃ m, w' = w.drewN m := by
  have := rencode_any a (a + s) w ha (by omega)
  rw [show rightN a (a + s) = true by simp [rightN, h], show ((a + s : Nat) : Int) = (a : Int) + s by omega] at this
  exact this
end Go.Proofs.Ytljchnfofjmleaa
