/-
  Walks of the document's answer for layer 4: Range, Holds, Meets, Within, IsNumber, Sound, Make.
-/
import Derived.Test.YtnnagaioiodniaaCapC
import Derived.Test.YtnnagaioiodniaaBndRef2
namespace Go.Proofs.Ytnnagaioiodniaa
open Go.RowKit
attribute [local go_sem ↓] Go.wp_at_zero Go.wp_at_succ

theorem rrange_is (cC cE cB cT cP cY cR : Nat) (cV : Bool) (x y : Nat) (w : World) (cl : capB cC cE cB cT cP cY cR) (hx : (decN cE cB cT cC).1 = x) (hy : (decN cE cB cT cC).2 = y) :
    Calls Try.prog 13 #[.agg #[.int .u32 cC, .int .u8 cE, .int .u16 cB, .int .u16 cT, .int .u16 cP, .int .u16 cY, .int .u32 cR, .bool cV]] w fun e' w' => e' = .returned (.tuple #[.int .u32 x, .int .u64 y]) ∧ Below w.heap.size w w' := by
  have HD : Hid (∀ W, Calls Try.prog 34 #[.int .u8 cE, .int .u16 cB, .int .u16 cT, .int .u32 cC] W fun e' w' => e' = .returned (.tuple #[.int .u32 x, .int .u64 y]) ∧ W = w') := fun W => by
    have := rdecode_any cE cB cT cC W cl.2.1 cl.2.2.1 cl.2.2.2.1 cl.1
    rwa [hx, hy] at this
  clear hx hy
  go_enter Try.func13, Try.ntmps13
  go_wp2_with fail
  refine (HD.out _).mono ?_
  rintro e' w1 ⟨rfl, rfl⟩
  go_wp2
  go_ret2
  exact ⟨rfl, by (repeat (first | exact Below.refl _ _ | refine Below.drew ?_ | refine below_drewN ?_ _ | refine Below.alloc ?_ (by simp <;> omega) _ | refine Below.setCell ?_ (by simp <;> omega) _))⟩

theorem rholds_any (cC cE cB cT cP cY cR : Nat) (cV : Bool) (a s x y : Nat) (w : World) (cl : capB cC cE cB cT cP cY cR) (ha : a < 4294967296) (hs : s < 4294967296) (hx : (decN cE cB cT cC).1 = x) (hy : (decN cE cB cT cC).2 = y) :
    Calls Try.prog 15 #[.agg #[.int .u32 cC, .int .u8 cE, .int .u16 cB, .int .u16 cT, .int .u16 cP, .int .u16 cY, .int .u32 cR, .bool cV], .agg #[.int .u32 a, .int .u32 s]] w fun e' w' => e' = .returned (.bool (holdsN x y a s)) ∧ Below w.heap.size w w' := by
  have HR : Hid (∀ W, Calls Try.prog 13 #[.agg #[.int .u32 cC, .int .u8 cE, .int .u16 cB, .int .u16 cT, .int .u16 cP, .int .u16 cY, .int .u32 cR, .bool cV]] W fun e' w' => e' = .returned (.tuple #[.int .u32 x, .int .u64 y]) ∧ Below W.heap.size W w') := fun W => rrange_is cC cE cB cT cP cY cR cV x y W cl hx hy
  have hh : holdsN x y a s = (decide (x ≤ a) && decide ((a : Int) + s ≤ y)) := by
    unfold holdsN
    rw [show decide (a + s ≤ y) = decide ((a : Int) + s ≤ y) by rw [decide_eq_decide]; omega]
  rw [hh]
  clear hh hx hy
  by_cases h1 : x ≤ a
  · rw [decide_eq_true h1, Bool.true_and]
    go_enter Try.func15, Try.ntmps15
    go_wp2_with fail
    refine (HR.out _).mono ?_
    rintro e' w1 ⟨rfl, hb1⟩
    obtain ⟨hc1, hf1⟩ := bcell hb1
    have hz1 := hb1.size
    simp at hz1
    have HB1 := hide hb1; clear hb1
    go_wp2
    go_ret
    exact ⟨rfl, (((Below.refl _ _).alloc (Nat.le_refl _) _).alloc (by simp) _).trans (HB1.out.mono (by simp; omega))⟩
  · have d1 : decide (x ≤ a) = false := by simpa using h1
    rw [d1, Bool.false_and]
    go_enter Try.func15, Try.ntmps15
    go_wp2_with fail
    refine (HR.out _).mono ?_
    rintro e' w1 ⟨rfl, hb1⟩
    obtain ⟨hc1, hf1⟩ := bcell hb1
    have hz1 := hb1.size
    simp at hz1
    have HB1 := hide hb1; clear hb1
    go_wp2
    go_ret
    exact ⟨rfl, (((Below.refl _ _).alloc (Nat.le_refl _) _).alloc (by simp) _).trans (HB1.out.mono (by simp; omega))⟩

theorem rmeets_any (cC cE cB cT cP cY cR : Nat) (cV : Bool) (a s x y : Nat) (w : World) (cl : capB cC cE cB cT cP cY cR) (ha : a < 4294967296) (hs : s < 4294967296) (hx : (decN cE cB cT cC).1 = x) (hy : (decN cE cB cT cC).2 = y) :
    Calls Try.prog 17 #[.agg #[.int .u32 cC, .int .u8 cE, .int .u16 cB, .int .u16 cT, .int .u16 cP, .int .u16 cY, .int .u32 cR, .bool cV], .agg #[.int .u32 a, .int .u32 s]] w fun e' w' => e' = .returned (.bool (meetsN x y a s)) ∧ Below w.heap.size w w' := by
  have HR : Hid (∀ W, Calls Try.prog 13 #[.agg #[.int .u32 cC, .int .u8 cE, .int .u16 cB, .int .u16 cT, .int .u16 cP, .int .u16 cY, .int .u32 cR, .bool cV]] W fun e' w' => e' = .returned (.tuple #[.int .u32 x, .int .u64 y]) ∧ Below W.heap.size W w') := fun W => rrange_is cC cE cB cT cP cY cR cV x y W cl hx hy
  have hx4 : x < 4294967296 := by rw [← hx]; exact (dec_lt _ _ _ _).1
  clear hx hy
  by_cases c1 : x < a
  · by_cases c2 : (a : Int) + s < y
    · have HE : Hid (meetsN x y a s = decide ((a : Int) < (a : Int) + s)) := (meets_eq (x := x) (y := y) (a := a) (s := s) (by omega) (by omega)).symm
      go_enter Try.func17, Try.ntmps17
      go_wp2_with fail
      refine (HR.out _).mono ?_
      rintro e' w1 ⟨rfl, hb1⟩
      obtain ⟨hc1, hf1⟩ := bcell hb1
      have hz1 := hb1.size
      simp at hz1
      have HB1 := hide hb1; clear hb1
      go_wp2
      go_ret
      exact ⟨ret_bool (by rw [HE.out] <;> simp), (((Below.refl _ _).alloc (Nat.le_refl _) _).alloc (by simp) _).trans (HB1.out.mono (by simp; omega))⟩
    · have HE : Hid (meetsN x y a s = decide ((a : Int) < (y : Int))) := (meets_eq (x := x) (y := y) (a := a) (s := s) (by omega) (by omega)).symm
      go_enter Try.func17, Try.ntmps17
      go_wp2_with fail
      refine (HR.out _).mono ?_
      rintro e' w1 ⟨rfl, hb1⟩
      obtain ⟨hc1, hf1⟩ := bcell hb1
      have hz1 := hb1.size
      simp at hz1
      have HB1 := hide hb1; clear hb1
      go_wp2
      go_ret
      exact ⟨ret_bool (by rw [HE.out] <;> simp), (((Below.refl _ _).alloc (Nat.le_refl _) _).alloc (by simp) _).trans (HB1.out.mono (by simp; omega))⟩
  · by_cases c2 : (a : Int) + s < y
    · have HE : Hid (meetsN x y a s = decide ((x : Int) < (a : Int) + s)) := (meets_eq (x := x) (y := y) (a := a) (s := s) (by omega) (by omega)).symm
      go_enter Try.func17, Try.ntmps17
      go_wp2_with fail
      refine (HR.out _).mono ?_
      rintro e' w1 ⟨rfl, hb1⟩
      obtain ⟨hc1, hf1⟩ := bcell hb1
      have hz1 := hb1.size
      simp at hz1
      have HB1 := hide hb1; clear hb1
      go_wp2
      go_ret
      exact ⟨ret_bool (by rw [HE.out] <;> simp), (((Below.refl _ _).alloc (Nat.le_refl _) _).alloc (by simp) _).trans (HB1.out.mono (by simp; omega))⟩
    · have HE : Hid (meetsN x y a s = decide ((x : Int) < (y : Int))) := (meets_eq (x := x) (y := y) (a := a) (s := s) (by omega) (by omega)).symm
      go_enter Try.func17, Try.ntmps17
      go_wp2_with fail
      refine (HR.out _).mono ?_
      rintro e' w1 ⟨rfl, hb1⟩
      obtain ⟨hc1, hf1⟩ := bcell hb1
      have hz1 := hb1.size
      simp at hz1
      have HB1 := hide hb1; clear hb1
      go_wp2
      go_ret
      exact ⟨ret_bool (by rw [HE.out] <;> simp), (((Below.refl _ _).alloc (Nat.le_refl _) _).alloc (by simp) _).trans (HB1.out.mono (by simp; omega))⟩

theorem rwithin_any (aC aE aB aT aP aY aR : Nat) (aV : Bool) (bC bE bB bT bP bY bR : Nat) (bV : Bool) (x y u v : Nat) (w : World) (al : capB aC aE aB aT aP aY aR) (bl : capB bC bE bB bT bP bY bR) (hx : (decN aE aB aT aC).1 = x) (hy : (decN aE aB aT aC).2 = y) (hu : (decN bE bB bT bC).1 = u) (hv : (decN bE bB bT bC).2 = v) :
    Calls Try.prog 22 #[.agg #[.int .u32 aC, .int .u8 aE, .int .u16 aB, .int .u16 aT, .int .u16 aP, .int .u16 aY, .int .u32 aR, .bool aV], .agg #[.int .u32 bC, .int .u8 bE, .int .u16 bB, .int .u16 bT, .int .u16 bP, .int .u16 bY, .int .u32 bR, .bool bV]] w fun e' w' => e' = .returned (.bool (withinN aP bP x y u v)) ∧ Below w.heap.size w w' := by
  have HA : Hid (∀ W, Calls Try.prog 13 #[.agg #[.int .u32 aC, .int .u8 aE, .int .u16 aB, .int .u16 aT, .int .u16 aP, .int .u16 aY, .int .u32 aR, .bool aV]] W fun e' w' => e' = .returned (.tuple #[.int .u32 x, .int .u64 y]) ∧ Below W.heap.size W w') := fun W => rrange_is aC aE aB aT aP aY aR aV x y W al hx hy
  have HB : Hid (∀ W, Calls Try.prog 13 #[.agg #[.int .u32 bC, .int .u8 bE, .int .u16 bB, .int .u16 bT, .int .u16 bP, .int .u16 bY, .int .u32 bR, .bool bV]] W fun e' w' => e' = .returned (.tuple #[.int .u32 u, .int .u64 v]) ∧ Below W.heap.size W w') := fun W => rrange_is bC bE bB bT bP bY bR bV u v W bl hu hv
  have hs := sub_and al.2.2.2.2.1 bl.2.2.2.2.1
  have hxl : x < 4294967296 := by rw [← hx]; exact (dec_lt _ _ _ _).1
  have hul : u < 4294967296 := by rw [← hu]; exact (dec_lt _ _ _ _).1
  rw [within_eq]
  clear hx hy hu hv
  obtain ⟨k, hk⟩ : ∃ k, subP aP bP = k := ⟨_, rfl⟩
  rw [hk] at hs ⊢
  clear hk
  cases k with
  | false =>
    rw [Bool.false_and]
    go_enter Try.func22, Try.ntmps22
    go_wp2_with fail
    refine (HA.out _).mono ?_
    rintro e' w1 ⟨rfl, hb1⟩
    obtain ⟨hc1, hf1⟩ := bcell hb1
    have hz1 := hb1.size
    simp at hz1
    have HB1 := hide hb1
    go_wp2_with fail
    refine (HB.out _).mono ?_
    rintro e' w2 ⟨rfl, hb2⟩
    have f0 : w2.cell? ⟨w.heap.size, 4, none⟩ = some (.int .u16 aP) := (((Blk.new1 w _ _ _).below hb1 (by simp; omega)).below hb2 (by omega)).cell 4
    have f1 : w2.cell? ⟨w.heap.size + 1, 4, none⟩ = some (.int .u16 bP) := (((Blk.new2 w _ _ _).below hb1 (by simp)).below hb2 (by omega)).cell 4
    have HB2 := hide hb2; clear hb2 hc1 hf1 hb1
    go_wp2
    go_ret
    exact ⟨rfl, ((((Below.refl _ _).alloc (Nat.le_refl _) _).alloc (by simp) _).trans (HB1.out.mono (by simp; omega))).trans (HB2.out.mono (by omega))⟩
  | true =>
    rw [Bool.true_and]
    by_cases c1 : y ≤ x
    · rw [decide_eq_true c1, Bool.true_or]
      go_enter Try.func22, Try.ntmps22
      go_wp2_with fail
      refine (HA.out _).mono ?_
      rintro e' w1 ⟨rfl, hb1⟩
      obtain ⟨hc1, hf1⟩ := bcell hb1
      have hz1 := hb1.size
      simp at hz1
      have HB1 := hide hb1
      go_wp2_with fail
      refine (HB.out _).mono ?_
      rintro e' w2 ⟨rfl, hb2⟩
      have f0 : w2.cell? ⟨w.heap.size, 4, none⟩ = some (.int .u16 aP) := (((Blk.new1 w _ _ _).below hb1 (by simp; omega)).below hb2 (by omega)).cell 4
      have f1 : w2.cell? ⟨w.heap.size + 1, 4, none⟩ = some (.int .u16 bP) := (((Blk.new2 w _ _ _).below hb1 (by simp)).below hb2 (by omega)).cell 4
      have HB2 := hide hb2; clear hb2 hc1 hf1 hb1
      go_wp2
      go_ret
      exact ⟨rfl, ((((Below.refl _ _).alloc (Nat.le_refl _) _).alloc (by simp) _).trans (HB1.out.mono (by simp; omega))).trans (HB2.out.mono (by omega))⟩
    · have d1 : decide (y ≤ x) = false := by simpa using c1
      rw [d1, Bool.false_or]
      by_cases c2 : u ≤ x
      · rw [decide_eq_true c2, Bool.true_and]
        go_enter Try.func22, Try.ntmps22
        go_wp2_with fail
        refine (HA.out _).mono ?_
        rintro e' w1 ⟨rfl, hb1⟩
        obtain ⟨hc1, hf1⟩ := bcell hb1
        have hz1 := hb1.size
        simp at hz1
        have HB1 := hide hb1
        go_wp2_with fail
        refine (HB.out _).mono ?_
        rintro e' w2 ⟨rfl, hb2⟩
        have f0 : w2.cell? ⟨w.heap.size, 4, none⟩ = some (.int .u16 aP) := (((Blk.new1 w _ _ _).below hb1 (by simp; omega)).below hb2 (by omega)).cell 4
        have f1 : w2.cell? ⟨w.heap.size + 1, 4, none⟩ = some (.int .u16 bP) := (((Blk.new2 w _ _ _).below hb1 (by simp)).below hb2 (by omega)).cell 4
        have HB2 := hide hb2; clear hb2 hc1 hf1 hb1
        go_wp2
        go_ret
        exact ⟨rfl, ((((Below.refl _ _).alloc (Nat.le_refl _) _).alloc (by simp) _).trans (HB1.out.mono (by simp; omega))).trans (HB2.out.mono (by omega))⟩
      · have d2 : decide (u ≤ x) = false := by simpa using c2
        rw [d2, Bool.false_and]
        go_enter Try.func22, Try.ntmps22
        go_wp2_with fail
        refine (HA.out _).mono ?_
        rintro e' w1 ⟨rfl, hb1⟩
        obtain ⟨hc1, hf1⟩ := bcell hb1
        have hz1 := hb1.size
        simp at hz1
        have HB1 := hide hb1
        go_wp2_with fail
        refine (HB.out _).mono ?_
        rintro e' w2 ⟨rfl, hb2⟩
        have f0 : w2.cell? ⟨w.heap.size, 4, none⟩ = some (.int .u16 aP) := (((Blk.new1 w _ _ _).below hb1 (by simp; omega)).below hb2 (by omega)).cell 4
        have f1 : w2.cell? ⟨w.heap.size + 1, 4, none⟩ = some (.int .u16 bP) := (((Blk.new2 w _ _ _).below hb1 (by simp)).below hb2 (by omega)).cell 4
        have HB2 := hide hb2; clear hb2 hc1 hf1 hb1
        go_wp2
        go_ret
        exact ⟨rfl, ((((Below.refl _ _).alloc (Nat.le_refl _) _).alloc (by simp) _).trans (HB1.out.mono (by simp; omega))).trans (HB2.out.mono (by omega))⟩

theorem risnumber_any (cC cE cB cT cP cY cR : Nat) (cV : Bool) (w : World) :
    Calls Try.prog 30 #[.agg #[.int .u32 cC, .int .u8 cE, .int .u16 cB, .int .u16 cT, .int .u16 cP, .int .u16 cY, .int .u32 cR, .bool cV]] w fun e' w' => e' = .returned (.bool (capEq cC cE cB cT cP cY cR cV cC 0 0 0 0 0 0 false)) ∧ Below w.heap.size w w' := by
  have he := fun W => eql_cap cC cE cB cT cP cY cR cV cC 0 0 0 0 0 0 false W
  generalize capEq cC cE cB cT cP cY cR cV cC 0 0 0 0 0 0 false = k at *
  simp only [Int.cast_ofNat_Int] at he
  go_enter Try.func30, Try.ntmps30
  go_wp2
  go_ret
  exact ⟨rfl, by (repeat (first | exact Below.refl _ _ | refine Below.drew ?_ | refine below_drewN ?_ _ | refine Below.alloc ?_ (by simp <;> omega) _ | refine Below.setCell ?_ (by simp <;> omega) _))⟩

theorem rmake_yes (a s p e b t : Nat) (w : World) (ha : a < 4294967296) (hs : s < 4294967296) (h1 : ¬ (255 : Int) < p) (h2 : decide ((4294967296 : Int) < (a : Int) + s) = false)
    (HE : Hid (∀ W, Calls Try.prog 37 #[.int .u32 a, .int .u64 ((a : Int) + s)] W fun e' w' => e' = .returned (.tuple #[.int .u8 e, .int .u16 b, .int .u16 t, .bool true, .bool true]) ∧ ∃ m, w' = W.drewN m)) :
    Calls Try.prog 20 #[.agg #[.int .u32 a, .int .u32 s], .int .u16 p] w fun e' w' => e' = .returned (.tuple #[.agg #[.int .u32 a, .int .u8 e, .int .u16 b, .int .u16 t, .int .u16 p, .int .u16 0, .int .u32 0, .bool true], .bool true]) ∧ Below w.heap.size w w' := by
  go_enter Try.func20, Try.ntmps20
  go_wp2_with fail
  refine (HE.out _).mono ?_
  rintro e' w1 ⟨rfl, m, rfl⟩
  go_wp2
  refine bodyPost_ret (v := .tuple #[.agg #[.int .u32 a, .int .u8 e, .int .u16 b, .int .u16 t, .int .u16 p, .int .u16 0, .int .u32 0, .bool true], .bool true]) (by simp [results, Try.results20, go_sem]) rfl ⟨rfl, ?_⟩
  (repeat (first | (with_reducible exact Below.refl _ _) | (with_reducible refine Below.drew ?_) | (with_reducible refine below_drewN ?_ _) | (with_reducible refine Below.alloc ?_ (by simp <;> omega) _) | (with_reducible refine Below.setCell ?_ (by simp <;> omega) _)))

theorem rmake_no (a s p e b t : Nat) (w : World) (ha : a < 4294967296) (hs : s < 4294967296) (h1 : ¬ (255 : Int) < p) (h2 : decide ((4294967296 : Int) < (a : Int) + s) = false)
    (HE : Hid (∀ W, Calls Try.prog 37 #[.int .u32 a, .int .u64 ((a : Int) + s)] W fun e' w' => e' = .returned (.tuple #[.int .u8 e, .int .u16 b, .int .u16 t, .bool false, .bool true]) ∧ ∃ m, w' = W.drewN m)) :
    Calls Try.prog 20 #[.agg #[.int .u32 a, .int .u32 s], .int .u16 p] w fun e' w' => e' = .returned (.tuple #[.agg #[.int .u32 0, .int .u8 0, .int .u16 0, .int .u16 0, .int .u16 0, .int .u16 0, .int .u32 0, .bool false], .bool false]) ∧ Below w.heap.size w w' := by
  go_enter Try.func20, Try.ntmps20
  go_wp2_with fail
  refine (HE.out _).mono ?_
  rintro e' w1 ⟨rfl, m, rfl⟩
  go_wp2
  refine bodyPost_ret (v := .tuple #[.agg #[.int .u32 0, .int .u8 0, .int .u16 0, .int .u16 0, .int .u16 0, .int .u16 0, .int .u32 0, .bool false], .bool false]) (by simp [results, Try.results20, go_sem]) rfl ⟨rfl, ?_⟩
  (repeat (first | (with_reducible exact Below.refl _ _) | (with_reducible refine Below.drew ?_) | (with_reducible refine below_drewN ?_ _) | (with_reducible refine Below.alloc ?_ (by simp <;> omega) _) | (with_reducible refine Below.setCell ?_ (by simp <;> omega) _)))

theorem rmake_far (a s p : Nat) (w : World) (ha : a < 4294967296) (hs : s < 4294967296) (h1 : ¬ (255 : Int) < p) (h2 : (4294967296 : Int) < (a : Int) + s) :
    Calls Try.prog 20 #[.agg #[.int .u32 a, .int .u32 s], .int .u16 p] w fun e' w' => e' = .returned (.tuple #[.agg #[.int .u32 0, .int .u8 0, .int .u16 0, .int .u16 0, .int .u16 0, .int .u16 0, .int .u32 0, .bool false], .bool false]) ∧ Below w.heap.size w w' := by
  go_enter Try.func20, Try.ntmps20
  go_wp2
  refine bodyPost_ret (v := .tuple #[.agg #[.int .u32 0, .int .u8 0, .int .u16 0, .int .u16 0, .int .u16 0, .int .u16 0, .int .u32 0, .bool false], .bool false]) (by simp [results, Try.results20, go_sem]) rfl ⟨rfl, ?_⟩
  (repeat (first | (with_reducible exact Below.refl _ _) | (with_reducible refine Below.drew ?_) | (with_reducible refine below_drewN ?_ _) | (with_reducible refine Below.alloc ?_ (by simp <;> omega) _) | (with_reducible refine Below.setCell ?_ (by simp <;> omega) _)))
theorem rmake_wide (a s p : Nat) (w : World) (ha : a < 4294967296) (hs : s < 4294967296) (h1 : (255 : Int) < p) :
    Calls Try.prog 20 #[.agg #[.int .u32 a, .int .u32 s], .int .u16 p] w fun e' w' => e' = .returned (.tuple #[.agg #[.int .u32 0, .int .u8 0, .int .u16 0, .int .u16 0, .int .u16 0, .int .u16 0, .int .u32 0, .bool false], .bool false]) ∧ Below w.heap.size w w' := by
  go_enter Try.func20, Try.ntmps20
  go_wp2
  refine bodyPost_ret (v := .tuple #[.agg #[.int .u32 0, .int .u8 0, .int .u16 0, .int .u16 0, .int .u16 0, .int .u16 0, .int .u32 0, .bool false], .bool false]) (by simp [results, Try.results20, go_sem]) rfl ⟨rfl, ?_⟩
  (repeat (first | (with_reducible exact Below.refl _ _) | (with_reducible refine Below.drew ?_) | (with_reducible refine below_drewN ?_ _) | (with_reducible refine Below.alloc ?_ (by simp <;> omega) _) | (with_reducible refine Below.setCell ?_ (by simp <;> omega) _)))
theorem renc_at_end (a s : Nat) (w : World) (ha : a < 4294967296) (h : a + s ≤ 4294967296) :
    Calls Try.prog 37 #[.int .u32 a, .int .u64 ((a : Int) + s)] w fun e' w' => e' = .returned (.tuple #[.int .u8 (encE a (a + s)), .int .u16 (encB a (a + s)), .int .u16 (encT a (a + s)), .bool (encX a (a + s)), .bool true]) ∧ ∃ m, w' = w.drewN m := by
  have := rencode_any a (a + s) w ha (by omega)
  rw [show rightN a (a + s) = true by simp [rightN, h], show ((a + s : Nat) : Int) = (a : Int) + s by omega] at this
  exact this
theorem rmake_y (a s p : Nat) (w : World) (ha : a < 4294967296) (hs : s < 4294967296) (h : makeOk a s p = true) :
    Calls Try.prog 20 #[.agg #[.int .u32 a, .int .u32 s], .int .u16 p] w fun e' w' => e' = .returned (.tuple #[.agg #[.int .u32 a, .int .u8 (encE a (a + s)), .int .u16 (encB a (a + s)), .int .u16 (encT a (a + s)), .int .u16 p, .int .u16 0, .int .u32 0, .bool true], .bool true]) ∧ Below w.heap.size w w' := by
  obtain ⟨h1, h2, h3⟩ := makeOk_true h
  refine rmake_yes a s p _ _ _ w ha hs (by omega) (by simp; omega) (fun W => ?_)
  have := renc_at_end a s W ha h2
  rwa [h3] at this
theorem rmake_n (a s p : Nat) (w : World) (ha : a < 4294967296) (hs : s < 4294967296) (h : makeOk a s p = false) :
    Calls Try.prog 20 #[.agg #[.int .u32 a, .int .u32 s], .int .u16 p] w fun e' w' => e' = .returned (.tuple #[.agg #[.int .u32 0, .int .u8 0, .int .u16 0, .int .u16 0, .int .u16 0, .int .u16 0, .int .u32 0, .bool false], .bool false]) ∧ Below w.heap.size w w' := by
  by_cases h1 : (255 : Int) < p
  · exact rmake_wide a s p w ha hs h1
  · by_cases h2 : (4294967296 : Int) < (a : Int) + s
    · exact rmake_far a s p w ha hs h1 h2
    · have h3 : encX a (a + s) = false := by
        simp only [makeOk, Bool.and_eq_false_iff, decide_eq_false_iff_not] at h
        rcases h with h | h | h
        · omega
        · omega
        · exact h
      refine rmake_no a s p (encE a (a + s)) (encB a (a + s)) (encT a (a + s)) w ha hs h1 (by simp; omega) (fun W => ?_)
      have := renc_at_end a s W ha (by omega)
      rwa [h3] at this
end Go.Proofs.Ytnnagaioiodniaa
