/-
  Walks of layer 5: set, Set, Exact.
-/
import Derived.Test.YtljchnfofjmleaaDerE
namespace Go.Proofs.Ytljchnfofjmleaa
open Go.RowKit
attribute [local go_sem ↓] Go.wp_at_zero Go.wp_at_succ

/-- Do rounded bounds lie within bounds? -/
def inR (lo hi x y : Nat) : Bool := decide (x ≤ lo) && decide (hi ≤ y)
theorem set1_any (X ex : Bool) (g h : Nat) (w : World) (hg : Blk w g 4 #[.bool X]) (hh : Blk w h 4 #[.bool ex]) :
    Calls Try.prog 59 #[.pointer (some ⟨g, 0, none⟩), .pointer (some ⟨h, 0, none⟩)] w fun e w' => e = .returned (.bool (X || !ex)) ∧ Below w.heap.size w w' := by
  have p0 := hg.cell 0
  have q0 := hh.cell 0
  simp at p0 q0
  clear hg hh
  cases X with
  | true =>
    go_enter Try.func59, Try.ntmps59
    go_wp2
    go_ret
    exact ⟨rfl, Below.refl _ _⟩
  | false =>
    go_enter Try.func59, Try.ntmps59
    go_wp2
    go_ret
    exact ⟨ret_bool (by simp), Below.refl _ _⟩
theorem set2_any (cC cE cB cT cP cY cR : Nat) (cV : Bool) (z : Int) (lo hi x y g h : Nat) (w : World) (cl : capB cC cE cB cT cP cY cR) (hx : (decN cE cB cT cC).1 = x) (hy : (decN cE cB cT cC).2 = y)
    (HR : Hid (∀ W, Calls Try.prog 61 #[.int .u32 cC, .int .u64 z] W fun e' w' => e' = .returned (.tuple #[.int .u32 lo, .int .u64 hi, .bool true]) ∧ W = w'))
    (hg : Blk w g 25 #[.int .u32 cC, .int .u8 cE, .int .u16 cB, .int .u16 cT, .int .u16 cP, .int .u16 cY, .int .u32 cR, .bool cV]) (hh : Blk w h 40 #[.int .u64 z]) :
    Calls Try.prog 60 #[.pointer (some ⟨g, 0, none⟩), .pointer (some ⟨h, 0, none⟩)] w fun e w' => e = .returned (.bool (inR lo hi x y)) ∧ Below w.heap.size w w' := by
  have hr := fun W => range_is cC cE cB cT cP cY cR cV x y W cl hx hy
  have HG := hide hr
  have q0 := hh.cell 0
  simp at q0
  have p0 := hg.cell 0
  have p1 := hg.cell 1
  have p2 := hg.cell 2
  have p3 := hg.cell 3
  have p4 := hg.cell 4
  have p5 := hg.cell 5
  have p6 := hg.cell 6
  have p7 := hg.cell 7
  simp at p0 p1 p2 p3 p4 p5 p6 p7
  clear hg hh hr hx hy
  unfold inR
  by_cases c1 : x ≤ lo
  · rw [decide_eq_true c1, Bool.true_and]
    go_enter Try.func60, Try.ntmps60
    go_wp2_with fail
    refine (HR.out _).mono ?_
    rintro e w1 ⟨rfl, rfl⟩
    go_wp2_with fail
    refine (HG.out _).mono ?_
    rintro e w2 ⟨rfl, hb2⟩
    have HB2 := hide hb2; clear hb2
    go_wp2
    go_ret
    exact ⟨rfl, HB2.out⟩
  · have d1 : decide (x ≤ lo) = false := by simpa using c1
    rw [d1, Bool.false_and]
    go_enter Try.func60, Try.ntmps60
    go_wp2_with fail
    refine (HR.out _).mono ?_
    rintro e w1 ⟨rfl, rfl⟩
    go_wp2_with fail
    refine (HG.out _).mono ?_
    rintro e w2 ⟨rfl, hb2⟩
    have HB2 := hide hb2; clear hb2
    go_wp2
    go_ret
    exact ⟨rfl, HB2.out⟩

set_option maxHeartbeats 1000000 in
theorem set_yes (cC cE cB cT cP cY cR : Nat) (cV : Bool) (s : Nat) (ex X : Bool) (e b t lo hi x y : Nat) (w : World) (cl : capB cC cE cB cT cP cY cR) (hs : s < 4294967296) (hx : (decN cE cB cT cC).1 = x) (hy : (decN cE cB cT cC).2 = y)
    (HR : Hid (∀ W, Calls Try.prog 61 #[.int .u32 cC, .int .u64 ((cC : Int) + s)] W fun e' w' => e' = .returned (.tuple #[.int .u32 lo, .int .u64 hi, .bool true]) ∧ W = w'))
    (HE : Hid (∀ W, Calls Try.prog 58 #[.int .u32 cC, .int .u64 ((cC : Int) + s)] W fun e' w' => e' = .returned (.tuple #[.int .u8 e, .int .u16 b, .int .u16 t, .bool X, .bool true]) ∧ ∃ m, w' = W.drewN m)) :
    Calls Try.prog 39 #[.agg #[.int .u32 cC, .int .u8 cE, .int .u16 cB, .int .u16 cT, .int .u16 cP, .int .u16 cY, .int .u32 cR, .bool cV], .int .u32 s, .bool ex] w fun e' w' => e' = .returned (.agg #[.int .u32 cC, .int .u8 e, .int .u16 b, .int .u16 t, .int .u16 cP, .int .u16 cY, .int .u32 cR, .bool (freeN cY cV && (X || !ex) && inR lo hi x y)]) ∧ Below w.heap.size w w' := by
  have hcl : cC < 4294967296 := cl.1
  obtain ⟨k, hkb⟩ : ∃ k, (freeN cY cV && (X || !ex) && inR lo hi x y) = k := ⟨_, rfl⟩
  rw [hkb]
  have HKB := hide hkb
  clear hkb
  go_enter Try.func39, Try.ntmps39
  go_wp2_with fail
  refine (HE.out _).mono ?_
  rintro e' w1 ⟨rfl, m, rfl⟩
  go_wp2_with fail
  refine (made3 cC e b t cP cY cR cV _ _ 42 59 60 #[.agg #[.int .u32 cC, .int .u8 cE, .int .u16 cB, .int .u16 cT, .int .u16 cP, .int .u16 cY, .int .u32 cR, .bool cV]] #[] #[] #[.pointer (some ⟨w.heap.size + 1 + 1 + 1 + 1 + 1, 0, none⟩), .pointer (some ⟨w.heap.size + 1, 0, none⟩)] #[] #[.pointer (some ⟨w.heap.size, 0, none⟩), .pointer (some ⟨w.heap.size + 1 + 1 + 1, 0, none⟩)] (freeN cY cV) (X || !ex) (inR lo hi x y) (Blk.newAt (by simp) _ _) (fun W => by kernel_rfl) (fun W => by kernel_rfl) (fun W => by kernel_rfl)
    (fun W hW => free_any cC cE cB cT cP cY cR cV W)
    (fun W hW => set1_any X ex (w.heap.size + 1 + 1 + 1 + 1 + 1) (w.heap.size + 1) W (Blk.below (by (repeat (first | (with_reducible exact Blk.new _ _ _) | (with_reducible refine Blk.drewN ?_ _) | (with_reducible refine Blk.drew ?_) | ((with_reducible refine Blk.newAt ?_ _ _); (simp; done)) | (with_reducible refine Blk.far ?_ (by first | (simp; done) | (simp; omega)) _) | (with_reducible refine Blk.alloc ?_ _)))) hW (by first | (simp; done) | (simp; omega))) (Blk.below (by (repeat (first | (with_reducible exact Blk.new _ _ _) | (with_reducible refine Blk.drewN ?_ _) | (with_reducible refine Blk.drew ?_) | ((with_reducible refine Blk.newAt ?_ _ _); (simp; done)) | (with_reducible refine Blk.far ?_ (by first | (simp; done) | (simp; omega)) _) | (with_reducible refine Blk.alloc ?_ _)))) hW (by first | (simp; done) | (simp; omega))))
    (fun W hW => set2_any cC cE cB cT cP cY cR cV ((cC : Int) + s) lo hi x y w.heap.size (w.heap.size + 1 + 1 + 1) W cl hx hy HR (Blk.below (by (repeat (first | (with_reducible exact Blk.new _ _ _) | (with_reducible refine Blk.drewN ?_ _) | (with_reducible refine Blk.drew ?_) | ((with_reducible refine Blk.newAt ?_ _ _); (simp; done)) | (with_reducible refine Blk.far ?_ (by first | (simp; done) | (simp; omega)) _) | (with_reducible refine Blk.alloc ?_ _)))) hW (by first | (simp; done) | (simp; omega))) (Blk.below (by (repeat (first | (with_reducible exact Blk.new _ _ _) | (with_reducible refine Blk.drewN ?_ _) | (with_reducible refine Blk.drew ?_) | ((with_reducible refine Blk.newAt ?_ _ _); (simp; done)) | (with_reducible refine Blk.far ?_ (by first | (simp; done) | (simp; omega)) _) | (with_reducible refine Blk.alloc ?_ _)))) hW (by first | (simp; done) | (simp; omega))))).mono ?_
  rintro e' w2 ⟨he, hb2⟩
  rw [HKB.out] at he
  subst he
  have hq2 : Blk w2 (w.heap.size + 1 + 1) 25 #[.int .u32 0, .int .u8 0, .int .u16 0, .int .u16 0, .int .u16 0, .int .u16 0, .int .u32 0, .bool false] := Blk.below (by (repeat (first | (with_reducible exact Blk.new _ _ _) | (with_reducible refine Blk.drewN ?_ _) | (with_reducible refine Blk.drew ?_) | ((with_reducible refine Blk.newAt ?_ _ _); (simp; done)) | (with_reducible refine Blk.far ?_ (by first | (simp; done) | (simp; omega)) _) | (with_reducible refine Blk.alloc ?_ _)))) hb2 (by first | (simp; done) | (simp; omega))
  have kb : Below w.heap.size w w2 := Below.trans (by (repeat (first | (with_reducible exact Below.refl _ _) | (with_reducible refine Below.drew ?_) | (with_reducible refine below_drewN ?_ _) | (with_reducible refine Below.alloc ?_ (by simp <;> omega) _) | (with_reducible refine Below.setCell ?_ (by simp <;> omega) _)))) (hb2.mono (by first | (simp; done) | (simp; omega)))
  clear hb2
  have r0 := hq2.cell 0
  have rz0 := hq2.frozen 0
  have r1 := hq2.cell 1
  have rz1 := hq2.frozen 1
  have r2 := hq2.cell 2
  have rz2 := hq2.frozen 2
  have r3 := hq2.cell 3
  have rz3 := hq2.frozen 3
  have r4 := hq2.cell 4
  have rz4 := hq2.frozen 4
  have r5 := hq2.cell 5
  have rz5 := hq2.frozen 5
  have r6 := hq2.cell 6
  have rz6 := hq2.frozen 6
  have r7 := hq2.cell 7
  have rz7 := hq2.frozen 7
  simp at r0 r1 r2 r3 r4 r5 r6 r7
  have HK := hide kb
  clear kb hq2
  go_wp2
  refine bodyPost_ret (v := .agg #[.int .u32 cC, .int .u8 e, .int .u16 b, .int .u16 t, .int .u16 cP, .int .u16 cY, .int .u32 cR, .bool k]) (by simp [results, Try.results39, go_sem, r0, r1, r2, r3, r4, r5, r6, r7]) rfl ⟨rfl, ?_⟩
  repeat (first | (with_reducible refine Below.setCell ?_ (by simp <;> omega) _))
  exact HK.out

theorem set_not (cC cE cB cT cP cY cR : Nat) (cV : Bool) (s : Nat) (ex : Bool) (e b t : Nat) (X : Bool) (w : World) (cl : capB cC cE cB cT cP cY cR) (hs : s < 4294967296)
    (HE : Hid (∀ W, Calls Try.prog 58 #[.int .u32 cC, .int .u64 ((cC : Int) + s)] W fun e' w' => e' = .returned (.tuple #[.int .u8 e, .int .u16 b, .int .u16 t, .bool X, .bool false]) ∧ ∃ m, w' = W.drewN m)) :
    Calls Try.prog 39 #[.agg #[.int .u32 cC, .int .u8 cE, .int .u16 cB, .int .u16 cT, .int .u16 cP, .int .u16 cY, .int .u32 cR, .bool cV], .int .u32 s, .bool ex] w fun e' w' => e' = .returned (.agg #[.int .u32 cC, .int .u8 cE, .int .u16 cB, .int .u16 cT, .int .u16 cP, .int .u16 cY, .int .u32 cR, .bool false]) ∧ Below w.heap.size w w' := by
  have hcl : cC < 4294967296 := cl.1
  go_enter Try.func39, Try.ntmps39
  go_wp2_with fail
  refine (HE.out _).mono ?_
  rintro e' w1 ⟨rfl, m, rfl⟩
  go_wp2_with fail
  refine (made_not cC cE cB cT cP cY cR cV _ _ (Blk.newAt (by simp) _ _)).mono ?_
  rintro e' w2 ⟨rfl, hb2⟩
  have hq2 : Blk w2 (w.heap.size + 1 + 1) 25 #[.int .u32 0, .int .u8 0, .int .u16 0, .int .u16 0, .int .u16 0, .int .u16 0, .int .u32 0, .bool false] := Blk.below (by (repeat (first | (with_reducible exact Blk.new _ _ _) | (with_reducible refine Blk.drewN ?_ _) | (with_reducible refine Blk.drew ?_) | ((with_reducible refine Blk.newAt ?_ _ _); (simp; done)) | (with_reducible refine Blk.far ?_ (by first | (simp; done) | (simp; omega)) _) | (with_reducible refine Blk.alloc ?_ _)))) hb2 (by first | (simp; done) | (simp; omega))
  have kb : Below w.heap.size w w2 := Below.trans (by (repeat (first | (with_reducible exact Below.refl _ _) | (with_reducible refine Below.drew ?_) | (with_reducible refine below_drewN ?_ _) | (with_reducible refine Below.alloc ?_ (by simp <;> omega) _) | (with_reducible refine Below.setCell ?_ (by simp <;> omega) _)))) (hb2.mono (by first | (simp; done) | (simp; omega)))
  clear hb2
  have r0 := hq2.cell 0
  have rz0 := hq2.frozen 0
  have r1 := hq2.cell 1
  have rz1 := hq2.frozen 1
  have r2 := hq2.cell 2
  have rz2 := hq2.frozen 2
  have r3 := hq2.cell 3
  have rz3 := hq2.frozen 3
  have r4 := hq2.cell 4
  have rz4 := hq2.frozen 4
  have r5 := hq2.cell 5
  have rz5 := hq2.frozen 5
  have r6 := hq2.cell 6
  have rz6 := hq2.frozen 6
  have r7 := hq2.cell 7
  have rz7 := hq2.frozen 7
  simp at r0 r1 r2 r3 r4 r5 r6 r7
  have HK := hide kb
  clear kb hq2
  go_wp2
  refine bodyPost_ret (v := .agg #[.int .u32 cC, .int .u8 cE, .int .u16 cB, .int .u16 cT, .int .u16 cP, .int .u16 cY, .int .u32 cR, .bool false]) (by simp [results, Try.results39, go_sem, r0, r1, r2, r3, r4, r5, r6, r7]) rfl ⟨rfl, ?_⟩
  repeat (first | (with_reducible refine Below.setCell ?_ (by simp <;> omega) _))
  exact HK.out

/-- The validity of what set makes. -/
def setV (cC cY : Nat) (cV : Bool) (s : Nat) (ex : Bool) (x y : Nat) : Bool := freeN cY cV && (encX cC (cC + s) || !ex) && inR (dnN cC (expoN cC (cC + s))) (upN (cC + s) (expoN cC (cC + s))) x y
theorem setin_y (cC cE cB cT cP cY cR : Nat) (cV : Bool) (s : Nat) (ex : Bool) (x y : Nat) (w : World) (cl : capB cC cE cB cT cP cY cR) (hs : s < 4294967296) (hx : (decN cE cB cT cC).1 = x) (hy : (decN cE cB cT cC).2 = y) (hr : rightN cC (cC + s) = true) :
    Calls Try.prog 39 #[.agg #[.int .u32 cC, .int .u8 cE, .int .u16 cB, .int .u16 cT, .int .u16 cP, .int .u16 cY, .int .u32 cR, .bool cV], .int .u32 s, .bool ex] w fun e' w' => e' = .returned (.agg #[.int .u32 cC, .int .u8 (encE cC (cC + s)), .int .u16 (encB cC (cC + s)), .int .u16 (encT cC (cC + s)), .int .u16 cP, .int .u16 cY, .int .u32 cR, .bool (setV cC cY cV s ex x y)]) ∧ Below w.heap.size w w' := by
  have hr2 := (rightN_true hr).2
  refine set_yes cC cE cB cT cP cY cR cV s ex (encX cC (cC + s)) _ _ _ _ _ x y w cl hs hx hy (fun W => ?_) (fun W => ?_)
  · have := round_any cC (cC + s) W cl.1 (by omega)
    rw [hr, if_pos rfl, if_pos rfl, show ((cC + s : Nat) : Int) = (cC : Int) + s by omega] at this
    exact this
  · have := encode_any cC (cC + s) W cl.1 (by omega)
    rw [hr, show ((cC + s : Nat) : Int) = (cC : Int) + s by omega] at this
    exact this
theorem setin_n (cC cE cB cT cP cY cR : Nat) (cV : Bool) (s : Nat) (ex : Bool) (w : World) (cl : capB cC cE cB cT cP cY cR) (hs : s < 4294967296) (hr : rightN cC (cC + s) = false) :
    Calls Try.prog 39 #[.agg #[.int .u32 cC, .int .u8 cE, .int .u16 cB, .int .u16 cT, .int .u16 cP, .int .u16 cY, .int .u32 cR, .bool cV], .int .u32 s, .bool ex] w fun e' w' => e' = .returned (.agg #[.int .u32 cC, .int .u8 cE, .int .u16 cB, .int .u16 cT, .int .u16 cP, .int .u16 cY, .int .u32 cR, .bool false]) ∧ Below w.heap.size w w' := by
  refine set_not cC cE cB cT cP cY cR cV s ex (encE cC (cC + s)) (encB cC (cC + s)) (encT cC (cC + s)) (encX cC (cC + s)) w cl hs (fun W => ?_)
  have := encode_any cC (cC + s) W cl.1 (by have := cl.1; omega)
  rw [hr, show ((cC + s : Nat) : Int) = (cC : Int) + s by omega] at this
  exact this

theorem set_w (cC cE cB cT cP cY cR : Nat) (cV : Bool) (s : Nat) (e b t cP' cY' cR' z : Nat) (k : Bool) (w : World)
    (HS : Hid (∀ W, Calls Try.prog 39 #[.agg #[.int .u32 cC, .int .u8 cE, .int .u16 cB, .int .u16 cT, .int .u16 cP, .int .u16 cY, .int .u32 cR, .bool cV], .int .u32 s, .bool false] W fun e' w' => e' = .returned (.agg #[.int .u32 z, .int .u8 e, .int .u16 b, .int .u16 t, .int .u16 cP', .int .u16 cY', .int .u32 cR', .bool k]) ∧ Below W.heap.size W w')) :
    Calls Try.prog 15 #[.agg #[.int .u32 cC, .int .u8 cE, .int .u16 cB, .int .u16 cT, .int .u16 cP, .int .u16 cY, .int .u32 cR, .bool cV], .int .u32 s] w fun e' w' => e' = .returned (.agg #[.int .u32 z, .int .u8 e, .int .u16 b, .int .u16 t, .int .u16 cP', .int .u16 cY', .int .u32 cR', .bool k]) ∧ Below w.heap.size w w' := by
  go_enter Try.func15, Try.ntmps15
  go_wp2_with fail
  refine (HS.out _).mono ?_
  rintro e' w2 ⟨rfl, hb2⟩
  have hq2 : Blk w2 (w.heap.size + 1) 25 #[.int .u32 0, .int .u8 0, .int .u16 0, .int .u16 0, .int .u16 0, .int .u16 0, .int .u32 0, .bool false] := Blk.below (by (repeat (first | (with_reducible exact Blk.new _ _ _) | (with_reducible refine Blk.drewN ?_ _) | (with_reducible refine Blk.drew ?_) | ((with_reducible refine Blk.newAt ?_ _ _); (simp; done)) | (with_reducible refine Blk.far ?_ (by first | (simp; done) | (simp; omega)) _) | (with_reducible refine Blk.alloc ?_ _)))) hb2 (by first | (simp; done) | (simp; omega))
  have kb : Below w.heap.size w w2 := Below.trans (by (repeat (first | (with_reducible exact Below.refl _ _) | (with_reducible refine Below.drew ?_) | (with_reducible refine below_drewN ?_ _) | (with_reducible refine Below.alloc ?_ (by simp <;> omega) _) | (with_reducible refine Below.setCell ?_ (by simp <;> omega) _)))) (hb2.mono (by first | (simp; done) | (simp; omega)))
  clear hb2
  have r0 := hq2.cell 0
  have rz0 := hq2.frozen 0
  have r1 := hq2.cell 1
  have rz1 := hq2.frozen 1
  have r2 := hq2.cell 2
  have rz2 := hq2.frozen 2
  have r3 := hq2.cell 3
  have rz3 := hq2.frozen 3
  have r4 := hq2.cell 4
  have rz4 := hq2.frozen 4
  have r5 := hq2.cell 5
  have rz5 := hq2.frozen 5
  have r6 := hq2.cell 6
  have rz6 := hq2.frozen 6
  have r7 := hq2.cell 7
  have rz7 := hq2.frozen 7
  simp at r0 r1 r2 r3 r4 r5 r6 r7
  have HK := hide kb
  clear kb hq2
  go_wp2
  refine bodyPost_ret (v := .agg #[.int .u32 z, .int .u8 e, .int .u16 b, .int .u16 t, .int .u16 cP', .int .u16 cY', .int .u32 cR', .bool k]) (by simp [results, Try.results15, go_sem, r0, r1, r2, r3, r4, r5, r6, r7]) rfl ⟨rfl, ?_⟩
  repeat (first | (with_reducible refine Below.setCell ?_ (by simp <;> omega) _))
  exact HK.out
theorem set_y (cC cE cB cT cP cY cR : Nat) (cV : Bool) (s x y : Nat) (w : World) (cl : capB cC cE cB cT cP cY cR) (hs : s < 4294967296) (hx : (decN cE cB cT cC).1 = x) (hy : (decN cE cB cT cC).2 = y) (hr : rightN cC (cC + s) = true) :
    Calls Try.prog 15 #[.agg #[.int .u32 cC, .int .u8 cE, .int .u16 cB, .int .u16 cT, .int .u16 cP, .int .u16 cY, .int .u32 cR, .bool cV], .int .u32 s] w fun e' w' => e' = .returned (.agg #[.int .u32 cC, .int .u8 (encE cC (cC + s)), .int .u16 (encB cC (cC + s)), .int .u16 (encT cC (cC + s)), .int .u16 cP, .int .u16 cY, .int .u32 cR, .bool (setV cC cY cV s false x y)]) ∧ Below w.heap.size w w' :=
  set_w cC cE cB cT cP cY cR cV s _ _ _ _ _ _ _ _ w (fun W => setin_y cC cE cB cT cP cY cR cV s false x y W cl hs hx hy hr)
theorem set_n (cC cE cB cT cP cY cR : Nat) (cV : Bool) (s : Nat) (w : World) (cl : capB cC cE cB cT cP cY cR) (hs : s < 4294967296) (hr : rightN cC (cC + s) = false) :
    Calls Try.prog 15 #[.agg #[.int .u32 cC, .int .u8 cE, .int .u16 cB, .int .u16 cT, .int .u16 cP, .int .u16 cY, .int .u32 cR, .bool cV], .int .u32 s] w fun e' w' => e' = .returned (.agg #[.int .u32 cC, .int .u8 cE, .int .u16 cB, .int .u16 cT, .int .u16 cP, .int .u16 cY, .int .u32 cR, .bool false]) ∧ Below w.heap.size w w' :=
  set_w cC cE cB cT cP cY cR cV s _ _ _ _ _ _ _ _ w (fun W => setin_n cC cE cB cT cP cY cR cV s false W cl hs hr)

theorem exact_w (cC cE cB cT cP cY cR : Nat) (cV : Bool) (s : Nat) (e b t cP' cY' cR' z : Nat) (k : Bool) (w : World)
    (HS : Hid (∀ W, Calls Try.prog 39 #[.agg #[.int .u32 cC, .int .u8 cE, .int .u16 cB, .int .u16 cT, .int .u16 cP, .int .u16 cY, .int .u32 cR, .bool cV], .int .u32 s, .bool true] W fun e' w' => e' = .returned (.agg #[.int .u32 z, .int .u8 e, .int .u16 b, .int .u16 t, .int .u16 cP', .int .u16 cY', .int .u32 cR', .bool k]) ∧ Below W.heap.size W w')) :
    Calls Try.prog 18 #[.agg #[.int .u32 cC, .int .u8 cE, .int .u16 cB, .int .u16 cT, .int .u16 cP, .int .u16 cY, .int .u32 cR, .bool cV], .int .u32 s] w fun e' w' => e' = .returned (.agg #[.int .u32 z, .int .u8 e, .int .u16 b, .int .u16 t, .int .u16 cP', .int .u16 cY', .int .u32 cR', .bool k]) ∧ Below w.heap.size w w' := by
  go_enter Try.func18, Try.ntmps18
  go_wp2_with fail
  refine (HS.out _).mono ?_
  rintro e' w2 ⟨rfl, hb2⟩
  have hq2 : Blk w2 (w.heap.size + 1) 25 #[.int .u32 0, .int .u8 0, .int .u16 0, .int .u16 0, .int .u16 0, .int .u16 0, .int .u32 0, .bool false] := Blk.below (by (repeat (first | (with_reducible exact Blk.new _ _ _) | (with_reducible refine Blk.drewN ?_ _) | (with_reducible refine Blk.drew ?_) | ((with_reducible refine Blk.newAt ?_ _ _); (simp; done)) | (with_reducible refine Blk.far ?_ (by first | (simp; done) | (simp; omega)) _) | (with_reducible refine Blk.alloc ?_ _)))) hb2 (by first | (simp; done) | (simp; omega))
  have kb : Below w.heap.size w w2 := Below.trans (by (repeat (first | (with_reducible exact Below.refl _ _) | (with_reducible refine Below.drew ?_) | (with_reducible refine below_drewN ?_ _) | (with_reducible refine Below.alloc ?_ (by simp <;> omega) _) | (with_reducible refine Below.setCell ?_ (by simp <;> omega) _)))) (hb2.mono (by first | (simp; done) | (simp; omega)))
  clear hb2
  have r0 := hq2.cell 0
  have rz0 := hq2.frozen 0
  have r1 := hq2.cell 1
  have rz1 := hq2.frozen 1
  have r2 := hq2.cell 2
  have rz2 := hq2.frozen 2
  have r3 := hq2.cell 3
  have rz3 := hq2.frozen 3
  have r4 := hq2.cell 4
  have rz4 := hq2.frozen 4
  have r5 := hq2.cell 5
  have rz5 := hq2.frozen 5
  have r6 := hq2.cell 6
  have rz6 := hq2.frozen 6
  have r7 := hq2.cell 7
  have rz7 := hq2.frozen 7
  simp at r0 r1 r2 r3 r4 r5 r6 r7
  have HK := hide kb
  clear kb hq2
  go_wp2
  refine bodyPost_ret (v := .agg #[.int .u32 z, .int .u8 e, .int .u16 b, .int .u16 t, .int .u16 cP', .int .u16 cY', .int .u32 cR', .bool k]) (by simp [results, Try.results18, go_sem, r0, r1, r2, r3, r4, r5, r6, r7]) rfl ⟨rfl, ?_⟩
  repeat (first | (with_reducible refine Below.setCell ?_ (by simp <;> omega) _))
  exact HK.out
theorem exact_y (cC cE cB cT cP cY cR : Nat) (cV : Bool) (s x y : Nat) (w : World) (cl : capB cC cE cB cT cP cY cR) (hs : s < 4294967296) (hx : (decN cE cB cT cC).1 = x) (hy : (decN cE cB cT cC).2 = y) (hr : rightN cC (cC + s) = true) :
    Calls Try.prog 18 #[.agg #[.int .u32 cC, .int .u8 cE, .int .u16 cB, .int .u16 cT, .int .u16 cP, .int .u16 cY, .int .u32 cR, .bool cV], .int .u32 s] w fun e' w' => e' = .returned (.agg #[.int .u32 cC, .int .u8 (encE cC (cC + s)), .int .u16 (encB cC (cC + s)), .int .u16 (encT cC (cC + s)), .int .u16 cP, .int .u16 cY, .int .u32 cR, .bool (setV cC cY cV s true x y)]) ∧ Below w.heap.size w w' :=
  exact_w cC cE cB cT cP cY cR cV s _ _ _ _ _ _ _ _ w (fun W => setin_y cC cE cB cT cP cY cR cV s true x y W cl hs hx hy hr)
theorem exact_n (cC cE cB cT cP cY cR : Nat) (cV : Bool) (s : Nat) (w : World) (cl : capB cC cE cB cT cP cY cR) (hs : s < 4294967296) (hr : rightN cC (cC + s) = false) :
    Calls Try.prog 18 #[.agg #[.int .u32 cC, .int .u8 cE, .int .u16 cB, .int .u16 cT, .int .u16 cP, .int .u16 cY, .int .u32 cR, .bool cV], .int .u32 s] w fun e' w' => e' = .returned (.agg #[.int .u32 cC, .int .u8 cE, .int .u16 cB, .int .u16 cT, .int .u16 cP, .int .u16 cY, .int .u32 cR, .bool false]) ∧ Below w.heap.size w w' :=
  exact_w cC cE cB cT cP cY cR cV s _ _ _ _ _ _ _ _ w (fun W => setin_n cC cE cB cT cP cY cR cV s true W cl hs hr)
end Go.Proofs.Ytljchnfofjmleaa
