/-
  Walks of layer 4 (capabilities): Range, end, Holds, Meets, Within, Number, IsNumber.
-/
import Derived.Test.YtnnagaioiodniaaCapNum
import Derived.Deep.RegionHeld3
import Derived.Deep.DrawnRows
import Derived.BigQuiet
namespace Go.Proofs.Ytnnagaioiodniaa
open Go.RowKit
attribute [local go_sem ↓] Go.wp_at_zero Go.wp_at_succ

theorem eql_cap (aC aE aB aT aP aY aR : Nat) (aV : Bool) (bC bE bB bT bP bY bR : Nat) (bV : Bool) (W : World) : (binOp .eql 25 (.agg #[.int .u32 aC, .int .u8 aE, .int .u16 aB, .int .u16 aT, .int .u16 aP, .int .u16 aY, .int .u32 aR, .bool aV]) (.agg #[.int .u32 bC, .int .u8 bE, .int .u16 bB, .int .u16 bT, .int .u16 bP, .int .u16 bY, .int .u32 bR, .bool bV])).run Try.prog W = .ok (.bool (capEq aC aE aB aT aP aY aR aV bC bE bB bT bP bY bR bV)) W := by
  rw [run_eql_struct, run_equalIn_agg W 9999 _ _ _ capU capS]
  simp [go_sem, Program.fieldsOf, Try.underlying25, Op.eqFields, Int.natCast_inj]
  repeat' split
  all_goals simp_all [capEq]

theorem range_any (cC cE cB cT cP cY cR : Nat) (cV : Bool) (w : World) (cl : capB cC cE cB cT cP cY cR) :
    Calls Try.prog 12 #[.agg #[.int .u32 cC, .int .u8 cE, .int .u16 cB, .int .u16 cT, .int .u16 cP, .int .u16 cY, .int .u32 cR, .bool cV]] w fun e' w' => e' = .returned (.tuple #[.int .u32 (decN cE cB cT cC).1, .int .u64 (decN cE cB cT cC).2]) ∧ Below w.heap.size w w' := by
  have HD : Hid (∀ W, Calls Try.prog 33 #[.int .u8 cE, .int .u16 cB, .int .u16 cT, .int .u32 cC] W fun e' w' => e' = .returned (.tuple #[.int .u32 (decN cE cB cT cC).1, .int .u64 (decN cE cB cT cC).2]) ∧ Below W.heap.size W w') := fun W => decode_any cE cB cT cC W cl.2.1 cl.2.2.1 cl.2.2.2.1 cl.1
  obtain ⟨x, hx⟩ : ∃ x, (decN cE cB cT cC).1 = x := ⟨_, rfl⟩
  obtain ⟨y, hy⟩ : ∃ y, (decN cE cB cT cC).2 = y := ⟨_, rfl⟩
  rw [hx, hy] at HD ⊢
  clear hx hy
  go_enter Try.func12, Try.ntmps12
  go_wp2_with fail
  refine (HD.out _).mono ?_
  rintro e' w1 ⟨rfl, hb1⟩
  have HB1 := hide hb1; clear hb1
  go_wp2
  go_ret2
  exact ⟨rfl, ((Below.refl _ _).alloc (Nat.le_refl _) _).trans (HB1.out.mono (by simp))⟩

theorem end_any (a s : Nat) (w : World) (ha : a < 4294967296) (hs : s < 4294967296) :
    Calls Try.prog 35 #[.agg #[.int .u32 a, .int .u32 s]] w fun e' w' => e' = .returned (.int .u64 ((a : Int) + s)) ∧ Below w.heap.size w w' := by
  go_enter Try.func35, Try.ntmps35
  go_wp2
  go_ret
  exact ⟨rfl, by (repeat (first | exact Below.refl _ _ | refine Below.drew ?_ | refine below_drewN ?_ _ | refine Below.alloc ?_ (by simp <;> omega) _ | refine Below.setCell ?_ (by simp <;> omega) _))⟩

/-- Range, its two answers under two names. -/
theorem range_is (cC cE cB cT cP cY cR : Nat) (cV : Bool) (x y : Nat) (w : World) (cl : capB cC cE cB cT cP cY cR) (hx : (decN cE cB cT cC).1 = x) (hy : (decN cE cB cT cC).2 = y) :
    Calls Try.prog 12 #[.agg #[.int .u32 cC, .int .u8 cE, .int .u16 cB, .int .u16 cT, .int .u16 cP, .int .u16 cY, .int .u32 cR, .bool cV]] w fun e' w' => e' = .returned (.tuple #[.int .u32 x, .int .u64 y]) ∧ Below w.heap.size w w' := by
  rw [← hx, ← hy]; exact range_any cC cE cB cT cP cY cR cV w cl

theorem holds_any (cC cE cB cT cP cY cR : Nat) (cV : Bool) (a s x y : Nat) (w : World) (cl : capB cC cE cB cT cP cY cR) (ha : a < 4294967296) (hs : s < 4294967296) (hx : (decN cE cB cT cC).1 = x) (hy : (decN cE cB cT cC).2 = y) :
    Calls Try.prog 14 #[.agg #[.int .u32 cC, .int .u8 cE, .int .u16 cB, .int .u16 cT, .int .u16 cP, .int .u16 cY, .int .u32 cR, .bool cV], .agg #[.int .u32 a, .int .u32 s]] w fun e' w' => e' = .returned (.bool (holdsN x y a s)) ∧ Below w.heap.size w w' := by
  have HR : Hid (∀ W, Calls Try.prog 12 #[.agg #[.int .u32 cC, .int .u8 cE, .int .u16 cB, .int .u16 cT, .int .u16 cP, .int .u16 cY, .int .u32 cR, .bool cV]] W fun e' w' => e' = .returned (.tuple #[.int .u32 x, .int .u64 y]) ∧ Below W.heap.size W w') := fun W => range_is cC cE cB cT cP cY cR cV x y W cl hx hy
  have hh : holdsN x y a s = (decide ((x : Int) ≤ a) && decide ((a : Int) + s ≤ y)) := by
    unfold holdsN
    rw [show decide (x ≤ a) = decide ((x : Int) ≤ a) by rw [decide_eq_decide]; omega, show decide (a + s ≤ y) = decide ((a : Int) + s ≤ y) by rw [decide_eq_decide]; omega]
  rw [hh]
  clear hh hx hy
  by_cases h1 : (x : Int) ≤ a
  · rw [decide_eq_true h1, Bool.true_and]
    go_enter Try.func14, Try.ntmps14
    go_wp2_with fail
    refine (HR.out _).mono ?_
    rintro e' w1 ⟨rfl, hb1⟩
    obtain ⟨hc1, hf1⟩ := bcell hb1
    have hz1 := hb1.size
    simp at hz1
    have HB1 := hide hb1; clear hb1
    go_wp2_with fail
    refine (end_any a s _ ha hs).mono ?_
    rintro e' w2 ⟨rfl, hb2⟩
    have HB2 := hide hb2; clear hb2
    go_wp2
    go_ret
    exact ⟨rfl, ((((Below.refl _ _).alloc (Nat.le_refl _) _).alloc (by simp) _).trans (HB1.out.mono (by simp; omega))).trans (HB2.out.mono (by omega))⟩
  · have d1 : decide ((x : Int) ≤ a) = false := by simpa using h1
    rw [d1, Bool.false_and]
    go_enter Try.func14, Try.ntmps14
    go_wp2_with fail
    refine (HR.out _).mono ?_
    rintro e' w1 ⟨rfl, hb1⟩
    obtain ⟨hc1, hf1⟩ := bcell hb1
    have hz1 := hb1.size
    simp at hz1
    have HB1 := hide hb1; clear hb1
    go_wp2
    go_ret
    exact ⟨rfl, (((Below.refl _ _).alloc (Nat.le_refl _) _).alloc (by simp) _).trans (HB1.out.mono (by simp; omega))⟩

theorem w64 (a : Nat) (h : a < 4294967296) : IntKind.u64.wrap (a : Int) = a := by rw [IntKind.wrap_u64]; omega
theorem meets_11 (cC cE cB cT cP cY cR : Nat) (cV : Bool) (a s x y : Nat) (w : World) (ha : a < 4294967296) (hs : s < 4294967296) (hx4 : x < 4294967296)
    (HR : Hid (∀ W, Calls Try.prog 12 #[.agg #[.int .u32 cC, .int .u8 cE, .int .u16 cB, .int .u16 cT, .int .u16 cP, .int .u16 cY, .int .u32 cR, .bool cV]] W fun e' w' => e' = .returned (.tuple #[.int .u32 x, .int .u64 y]) ∧ Below W.heap.size W w')) (c1 : (x : Int) < a) (c2 : (a : Int) + s < y) :
    Calls Try.prog 16 #[.agg #[.int .u32 cC, .int .u8 cE, .int .u16 cB, .int .u16 cT, .int .u16 cP, .int .u16 cY, .int .u32 cR, .bool cV], .agg #[.int .u32 a, .int .u32 s]] w fun e' w' => e' = .returned (.bool (decide (((a : Int) : Int) < (a : Int) + s))) ∧ Below w.heap.size w w' := by
  have wa := w64 a ha
  have wx := w64 x hx4
  go_enter Try.func16, Try.ntmps16
  go_wp2_with fail
  refine (HR.out _).mono ?_
  rintro e' w1 ⟨rfl, hb1⟩
  have hz1 := hb1.size
  simp at hz1
  have f0 : w1.cell? ⟨w.heap.size + 1, 0, none⟩ = some (.int .u32 a) := (hb1.cell (p := ⟨w.heap.size + 1, 0, none⟩) (by simp)).trans (by simp)
  have f1 : w1.cell? ⟨w.heap.size + 1, 1, none⟩ = some (.int .u32 s) := (hb1.cell (p := ⟨w.heap.size + 1, 1, none⟩) (by simp)).trans (by simp)
  have HB1 := hide hb1; clear hb1
  go_wp2_with fail
  go_region_held3 (fun w' => w'.cell? ⟨w.heap.size + 1, 0, none⟩ = some (.int .u32 a) ∧ w'.cell? ⟨w.heap.size + 1, 1, none⟩ = some (.int .u32 s)) (first | go_keep | exact ⟨(hb2.cell (p := ⟨w.heap.size + 1, 0, none⟩) hz1).trans f0, (hb2.cell (p := ⟨w.heap.size + 1, 1, none⟩) hz1).trans f1⟩)
    ((go_at_call 35; refine (end_any a s _ ha hs).mono ?_; rintro e' w2 ⟨rfl, hb2⟩))
  all_goals
    have HB2 := hide hb2; clear hb2
    go_wp2
    go_ret
    exact ⟨rfl, ((((Below.refl _ _).alloc (Nat.le_refl _) _).alloc (by simp) _).trans (HB1.out.mono (by simp; omega))).trans ((below_of_drew HB2.out).mono (by show w.heap.size ≤ w1.heap.size; omega))⟩
theorem meets_10 (cC cE cB cT cP cY cR : Nat) (cV : Bool) (a s x y : Nat) (w : World) (ha : a < 4294967296) (hs : s < 4294967296) (hx4 : x < 4294967296)
    (HR : Hid (∀ W, Calls Try.prog 12 #[.agg #[.int .u32 cC, .int .u8 cE, .int .u16 cB, .int .u16 cT, .int .u16 cP, .int .u16 cY, .int .u32 cR, .bool cV]] W fun e' w' => e' = .returned (.tuple #[.int .u32 x, .int .u64 y]) ∧ Below W.heap.size W w')) (c1 : (x : Int) < a) (c2 : ¬ (a : Int) + s < y) :
    Calls Try.prog 16 #[.agg #[.int .u32 cC, .int .u8 cE, .int .u16 cB, .int .u16 cT, .int .u16 cP, .int .u16 cY, .int .u32 cR, .bool cV], .agg #[.int .u32 a, .int .u32 s]] w fun e' w' => e' = .returned (.bool (decide (((a : Int) : Int) < (y : Int)))) ∧ Below w.heap.size w w' := by
  have wa := w64 a ha
  have wx := w64 x hx4
  go_enter Try.func16, Try.ntmps16
  go_wp2_with fail
  refine (HR.out _).mono ?_
  rintro e' w1 ⟨rfl, hb1⟩
  have hz1 := hb1.size
  simp at hz1
  have f0 : w1.cell? ⟨w.heap.size + 1, 0, none⟩ = some (.int .u32 a) := (hb1.cell (p := ⟨w.heap.size + 1, 0, none⟩) (by simp)).trans (by simp)
  have f1 : w1.cell? ⟨w.heap.size + 1, 1, none⟩ = some (.int .u32 s) := (hb1.cell (p := ⟨w.heap.size + 1, 1, none⟩) (by simp)).trans (by simp)
  have HB1 := hide hb1; clear hb1
  go_wp2_with fail
  go_region_held3 (fun w' => w'.cell? ⟨w.heap.size + 1, 0, none⟩ = some (.int .u32 a) ∧ w'.cell? ⟨w.heap.size + 1, 1, none⟩ = some (.int .u32 s)) (first | go_keep | exact ⟨(hb2.cell (p := ⟨w.heap.size + 1, 0, none⟩) hz1).trans f0, (hb2.cell (p := ⟨w.heap.size + 1, 1, none⟩) hz1).trans f1⟩)
    ((go_at_call 35; refine (end_any a s _ ha hs).mono ?_; rintro e' w2 ⟨rfl, hb2⟩))
  all_goals
    have HB2 := hide hb2; clear hb2
    go_wp2
    go_ret
    exact ⟨rfl, ((((Below.refl _ _).alloc (Nat.le_refl _) _).alloc (by simp) _).trans (HB1.out.mono (by simp; omega))).trans ((below_of_drew HB2.out).mono (by show w.heap.size ≤ w1.heap.size; omega))⟩
theorem meets_01 (cC cE cB cT cP cY cR : Nat) (cV : Bool) (a s x y : Nat) (w : World) (ha : a < 4294967296) (hs : s < 4294967296) (hx4 : x < 4294967296)
    (HR : Hid (∀ W, Calls Try.prog 12 #[.agg #[.int .u32 cC, .int .u8 cE, .int .u16 cB, .int .u16 cT, .int .u16 cP, .int .u16 cY, .int .u32 cR, .bool cV]] W fun e' w' => e' = .returned (.tuple #[.int .u32 x, .int .u64 y]) ∧ Below W.heap.size W w')) (c1 : ¬ (x : Int) < a) (c2 : (a : Int) + s < y) :
    Calls Try.prog 16 #[.agg #[.int .u32 cC, .int .u8 cE, .int .u16 cB, .int .u16 cT, .int .u16 cP, .int .u16 cY, .int .u32 cR, .bool cV], .agg #[.int .u32 a, .int .u32 s]] w fun e' w' => e' = .returned (.bool (decide (((x : Int) : Int) < (a : Int) + s))) ∧ Below w.heap.size w w' := by
  have wa := w64 a ha
  have wx := w64 x hx4
  go_enter Try.func16, Try.ntmps16
  go_wp2_with fail
  refine (HR.out _).mono ?_
  rintro e' w1 ⟨rfl, hb1⟩
  have hz1 := hb1.size
  simp at hz1
  have f0 : w1.cell? ⟨w.heap.size + 1, 0, none⟩ = some (.int .u32 a) := (hb1.cell (p := ⟨w.heap.size + 1, 0, none⟩) (by simp)).trans (by simp)
  have f1 : w1.cell? ⟨w.heap.size + 1, 1, none⟩ = some (.int .u32 s) := (hb1.cell (p := ⟨w.heap.size + 1, 1, none⟩) (by simp)).trans (by simp)
  have HB1 := hide hb1; clear hb1
  go_wp2_with fail
  go_region_held3 (fun w' => w'.cell? ⟨w.heap.size + 1, 0, none⟩ = some (.int .u32 a) ∧ w'.cell? ⟨w.heap.size + 1, 1, none⟩ = some (.int .u32 s)) (first | go_keep | exact ⟨(hb2.cell (p := ⟨w.heap.size + 1, 0, none⟩) hz1).trans f0, (hb2.cell (p := ⟨w.heap.size + 1, 1, none⟩) hz1).trans f1⟩)
    ((go_at_call 35; refine (end_any a s _ ha hs).mono ?_; rintro e' w2 ⟨rfl, hb2⟩))
  all_goals
    have HB2 := hide hb2; clear hb2
    go_wp2
    go_ret
    exact ⟨rfl, ((((Below.refl _ _).alloc (Nat.le_refl _) _).alloc (by simp) _).trans (HB1.out.mono (by simp; omega))).trans ((below_of_drew HB2.out).mono (by show w.heap.size ≤ w1.heap.size; omega))⟩
theorem meets_00 (cC cE cB cT cP cY cR : Nat) (cV : Bool) (a s x y : Nat) (w : World) (ha : a < 4294967296) (hs : s < 4294967296) (hx4 : x < 4294967296)
    (HR : Hid (∀ W, Calls Try.prog 12 #[.agg #[.int .u32 cC, .int .u8 cE, .int .u16 cB, .int .u16 cT, .int .u16 cP, .int .u16 cY, .int .u32 cR, .bool cV]] W fun e' w' => e' = .returned (.tuple #[.int .u32 x, .int .u64 y]) ∧ Below W.heap.size W w')) (c1 : ¬ (x : Int) < a) (c2 : ¬ (a : Int) + s < y) :
    Calls Try.prog 16 #[.agg #[.int .u32 cC, .int .u8 cE, .int .u16 cB, .int .u16 cT, .int .u16 cP, .int .u16 cY, .int .u32 cR, .bool cV], .agg #[.int .u32 a, .int .u32 s]] w fun e' w' => e' = .returned (.bool (decide (((x : Int) : Int) < (y : Int)))) ∧ Below w.heap.size w w' := by
  have wa := w64 a ha
  have wx := w64 x hx4
  go_enter Try.func16, Try.ntmps16
  go_wp2_with fail
  refine (HR.out _).mono ?_
  rintro e' w1 ⟨rfl, hb1⟩
  have hz1 := hb1.size
  simp at hz1
  have f0 : w1.cell? ⟨w.heap.size + 1, 0, none⟩ = some (.int .u32 a) := (hb1.cell (p := ⟨w.heap.size + 1, 0, none⟩) (by simp)).trans (by simp)
  have f1 : w1.cell? ⟨w.heap.size + 1, 1, none⟩ = some (.int .u32 s) := (hb1.cell (p := ⟨w.heap.size + 1, 1, none⟩) (by simp)).trans (by simp)
  have HB1 := hide hb1; clear hb1
  go_wp2_with fail
  go_region_held3 (fun w' => w'.cell? ⟨w.heap.size + 1, 0, none⟩ = some (.int .u32 a) ∧ w'.cell? ⟨w.heap.size + 1, 1, none⟩ = some (.int .u32 s)) (first | go_keep | exact ⟨(hb2.cell (p := ⟨w.heap.size + 1, 0, none⟩) hz1).trans f0, (hb2.cell (p := ⟨w.heap.size + 1, 1, none⟩) hz1).trans f1⟩)
    ((go_at_call 35; refine (end_any a s _ ha hs).mono ?_; rintro e' w2 ⟨rfl, hb2⟩))
  all_goals
    have HB2 := hide hb2; clear hb2
    go_wp2
    go_ret
    exact ⟨rfl, ((((Below.refl _ _).alloc (Nat.le_refl _) _).alloc (by simp) _).trans (HB1.out.mono (by simp; omega))).trans ((below_of_drew HB2.out).mono (by show w.heap.size ≤ w1.heap.size; omega))⟩
theorem meets_eq {x y a s : Nat} {M N : Int} (hM : ((max x a : Nat) : Int) = M) (hN : ((min y (a + s) : Nat) : Int) = N) : decide (M < N) = meetsN x y a s := by
  subst hM hN
  unfold meetsN; rw [decide_eq_decide]; omega
theorem meets_any (cC cE cB cT cP cY cR : Nat) (cV : Bool) (a s x y : Nat) (w : World) (cl : capB cC cE cB cT cP cY cR) (ha : a < 4294967296) (hs : s < 4294967296) (hx : (decN cE cB cT cC).1 = x) (hy : (decN cE cB cT cC).2 = y) :
    Calls Try.prog 16 #[.agg #[.int .u32 cC, .int .u8 cE, .int .u16 cB, .int .u16 cT, .int .u16 cP, .int .u16 cY, .int .u32 cR, .bool cV], .agg #[.int .u32 a, .int .u32 s]] w fun e' w' => e' = .returned (.bool (meetsN x y a s)) ∧ Below w.heap.size w w' := by
  have HR : Hid (∀ W, Calls Try.prog 12 #[.agg #[.int .u32 cC, .int .u8 cE, .int .u16 cB, .int .u16 cT, .int .u16 cP, .int .u16 cY, .int .u32 cR, .bool cV]] W fun e' w' => e' = .returned (.tuple #[.int .u32 x, .int .u64 y]) ∧ Below W.heap.size W w') := fun W => range_is cC cE cB cT cP cY cR cV x y W cl hx hy
  have hx4 : x < 4294967296 := by rw [← hx]; exact (dec_lt _ _ _ _).1
  by_cases c1 : (x : Int) < a
  · by_cases c2 : (a : Int) + s < y
    · have := meets_11 cC cE cB cT cP cY cR cV a s x y w ha hs hx4 HR c1 c2
      rwa [meets_eq (x := x) (y := y) (a := a) (s := s) (by omega) (by omega)] at this
    · have := meets_10 cC cE cB cT cP cY cR cV a s x y w ha hs hx4 HR c1 c2
      rwa [meets_eq (x := x) (y := y) (a := a) (s := s) (by omega) (by omega)] at this
  · by_cases c2 : (a : Int) + s < y
    · have := meets_01 cC cE cB cT cP cY cR cV a s x y w ha hs hx4 HR c1 c2
      rwa [meets_eq (x := x) (y := y) (a := a) (s := s) (by omega) (by omega)] at this
    · have := meets_00 cC cE cB cT cP cY cR cV a s x y w ha hs hx4 HR c1 c2
      rwa [meets_eq (x := x) (y := y) (a := a) (s := s) (by omega) (by omega)] at this
end Go.Proofs.Ytnnagaioiodniaa
