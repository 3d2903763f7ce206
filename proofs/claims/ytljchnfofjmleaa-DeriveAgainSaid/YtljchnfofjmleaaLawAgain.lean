/-
  DeriveAgain: what was made less by Set or Exact is made valid again of its bits, by what it was made of. No condition.
-/
import Derived.Test.YtljchnfofjmleaaDerWorks
import Derived.Test.YtljchnfofjmleaaBndMath
import Derived.Test.YtljchnfofjmleaaFrame
import Derived.Test.YtljchnfofjmleaaOpen
namespace Go.Proofs.Ytljchnfofjmleaa
open Go.ChangeShapes Go.WideShapes Go.ChangeAt Go.RowKit
open Go.ChangeMaps (open_string shut_string)
attribute [local go_sem ↓] Go.wp_at_zero Go.wp_at_succ

theorem neq_cap (aC aE aB aT aP aY aR : Nat) (aV : Bool) (bC bE bB bT bP bY bR : Nat) (bV : Bool) (W : World) : (binOp .neq 25 (.agg #[.int .u32 aC, .int .u8 aE, .int .u16 aB, .int .u16 aT, .int .u16 aP, .int .u16 aY, .int .u32 aR, .bool aV]) (.agg #[.int .u32 bC, .int .u8 bE, .int .u16 bB, .int .u16 bT, .int .u16 bP, .int .u16 bY, .int .u32 bR, .bool bV])).run Try.prog W = .ok (.bool (!capEq aC aE aB aT aP aY aR aV bC bE bB bT bP bY bR bV)) W := by
  rw [run_neq_struct, run_equalIn_agg W 9999 _ _ _ capU capS]
  simp [go_sem, Program.fieldsOf, Try.underlying25, Op.eqFields, Int.natCast_inj]
  repeat' split
  all_goals simp_all [capEq]
def AgA (w wr : World) (cC cE cB cT cP cY cR : Nat) (cV : Bool) (i : Value) : Prop := ∃ k : Nat, k ≤ 2 ∧ i = .int .i64 k ∧ Blk wr w.heap.size 25 #[.int .u32 cC, .int .u8 cE, .int .u16 cB, .int .u16 cT, .int .u16 cP, .int .u16 cY, .int .u32 cR, .bool cV] ∧ Below w.heap.size w wr
set_option maxRecDepth 100000 in
set_option maxHeartbeats 8000000 in
theorem again_core (cC cE cB cT cP cY cR : Nat) (cV : Bool) (n : Nat) (yC yE yB yT yP yY yR : Nat) (v0 k0 : Bool) (zC zE zB zT zP zY zR : Nat) (v1 k1 : Bool) (w : World)
    (HS0 : Hid (∀ W, Calls Try.prog 15 #[.agg #[.int .u32 cC, .int .u8 cE, .int .u16 cB, .int .u16 cT, .int .u16 cP, .int .u16 cY, .int .u32 cR, .bool cV], .int .u32 n] W fun e w' => e = .returned (.agg #[.int .u32 yC, .int .u8 yE, .int .u16 yB, .int .u16 yT, .int .u16 yP, .int .u16 yY, .int .u32 yR, .bool v0]) ∧ Below W.heap.size W w'))
    (HO0 : Hid (∀ W, Calls Try.prog 32 #[.agg #[.int .u32 yC, .int .u8 yE, .int .u16 yB, .int .u16 yT, .int .u16 yP, .int .u16 yY, .int .u32 yR, .bool true]] W fun e w' => e = .returned (.bool k0) ∧ Below W.heap.size W w'))
    (HB0 : Hid (v0 = true → k0 = true → ∀ W, Calls Try.prog 30 #[.agg #[.int .u32 yC, .int .u8 yE, .int .u16 yB, .int .u16 yT, .int .u16 yP, .int .u16 yY, .int .u32 yR, .bool false], .agg #[.int .u32 cC, .int .u8 cE, .int .u16 cB, .int .u16 cT, .int .u16 cP, .int .u16 cY, .int .u32 cR, .bool cV]] W fun e w' => e = .returned (.agg #[.int .u32 yC, .int .u8 yE, .int .u16 yB, .int .u16 yT, .int .u16 yP, .int .u16 yY, .int .u32 yR, .bool true]) ∧ Below W.heap.size W w'))
    (HS1 : Hid (∀ W, Calls Try.prog 18 #[.agg #[.int .u32 cC, .int .u8 cE, .int .u16 cB, .int .u16 cT, .int .u16 cP, .int .u16 cY, .int .u32 cR, .bool cV], .int .u32 n] W fun e w' => e = .returned (.agg #[.int .u32 zC, .int .u8 zE, .int .u16 zB, .int .u16 zT, .int .u16 zP, .int .u16 zY, .int .u32 zR, .bool v1]) ∧ Below W.heap.size W w'))
    (HO1 : Hid (∀ W, Calls Try.prog 32 #[.agg #[.int .u32 zC, .int .u8 zE, .int .u16 zB, .int .u16 zT, .int .u16 zP, .int .u16 zY, .int .u32 zR, .bool true]] W fun e w' => e = .returned (.bool k1) ∧ Below W.heap.size W w'))
    (HB1 : Hid (v1 = true → k1 = true → ∀ W, Calls Try.prog 30 #[.agg #[.int .u32 zC, .int .u8 zE, .int .u16 zB, .int .u16 zT, .int .u16 zP, .int .u16 zY, .int .u32 zR, .bool false], .agg #[.int .u32 cC, .int .u8 cE, .int .u16 cB, .int .u16 cT, .int .u16 cP, .int .u16 cY, .int .u32 cR, .bool cV]] W fun e w' => e = .returned (.agg #[.int .u32 zC, .int .u8 zE, .int .u16 zB, .int .u16 zT, .int .u16 zP, .int .u16 zY, .int .u32 zR, .bool true]) ∧ Below W.heap.size W w')) :
    Calls Try.prog 10 #[.agg #[.int .u32 cC, .int .u8 cE, .int .u16 cB, .int .u16 cT, .int .u16 cP, .int .u16 cY, .int .u32 cR, .bool cV], .int .u32 n] w fun e w' => e = .returned (.bool true) ∧ Below w.heap.size w w' := by
  go_enter Try.func10, Try.ntmps10
  go_wp2
  go_loopw [5] (fun i wr => AgA w wr cC cE cB cT cP cY cR cV i) (fun i _ => 2 - (intOf i).toNat)
  case atStart => exact ⟨0, by omega, rfl, Blk.new w _ _, (Below.refl _ _).alloc (Nat.le_refl _) _⟩
  case round =>
    obtain ⟨k, hk, rfl, hq0, kb⟩ := hrel
    have p0 := hq0.cell 0
    have p1 := hq0.cell 1
    have p2 := hq0.cell 2
    have p3 := hq0.cell 3
    have p4 := hq0.cell 4
    have p5 := hq0.cell 5
    have p6 := hq0.cell 6
    have p7 := hq0.cell 7
    simp at p0 p1 p2 p3 p4 p5 p6 p7
    have hk' : k = 0 ∨ k = 1 ∨ k = 2 := by omega
    rcases hk' with rfl | rfl | rfl
    · go_wp2_with fail
      refine (HS0.out _).mono ?_
      rintro e w1 ⟨rfl, hb1⟩
      have hq0 := (hq0.below hb1 hq0.lt).alloc (.cells #[.int .u32 yC, .int .u8 yE, .int .u16 yB, .int .u16 yT, .int .u16 yP, .int .u16 yY, .int .u32 yR, .bool v0] 25)
      have hqs := Blk.new w1 25 #[.int .u32 yC, .int .u8 yE, .int .u16 yB, .int .u16 yT, .int .u16 yP, .int .u16 yY, .int .u32 yR, .bool v0]
      have kb := (kb.trans (hb1.mono kb.size)).alloc (Nat.le_trans kb.size hb1.size) (.cells #[.int .u32 yC, .int .u8 yE, .int .u16 yB, .int .u16 yT, .int .u16 yP, .int .u16 yY, .int .u32 yR, .bool v0] 25)
      clear hb1 p0 p1 p2 p3 p4 p5 p6 p7
      cases v0 with
      | false =>
        have HKB := hide kb
        have HQ0 := hide hq0
        clear kb hq0 hqs
        go_wp2
        go_roundw
        case rel => exact ⟨1, by omega, rfl, HQ0.out, HKB.out⟩
        case measure => simp [intOf]
      | true =>
        have p0 := hq0.cell 0
        have p1 := hq0.cell 1
        have p2 := hq0.cell 2
        have p3 := hq0.cell 3
        have p4 := hq0.cell 4
        have p5 := hq0.cell 5
        have p6 := hq0.cell 6
        have p7 := hq0.cell 7
        simp at p0 p1 p2 p3 p4 p5 p6 p7
        have r0 := hqs.cell 0
        have r1 := hqs.cell 1
        have r2 := hqs.cell 2
        have r3 := hqs.cell 3
        have r4 := hqs.cell 4
        have r5 := hqs.cell 5
        have r6 := hqs.cell 6
        have r7 := hqs.cell 7
        simp at r0 r1 r2 r3 r4 r5 r6 r7
        go_wp2_with fail
        refine (HO0.out _).mono ?_
        rintro e w3 ⟨rfl, hb3⟩
        have hq0 := hq0.below hb3 hq0.lt
        have hqs := hqs.below hb3 hqs.lt
        have kb := kb.trans (hb3.mono kb.size)
        clear hb3 p0 p1 p2 p3 p4 p5 p6 p7 r0 r1 r2 r3 r4 r5 r6 r7
        cases k0 with
        | false =>
          have HKB := hide kb
          have HQ0 := hide hq0
          clear kb hq0 hqs
          go_wp2
          go_roundw
          case rel => exact ⟨1, by omega, rfl, HQ0.out, HKB.out⟩
          case measure => simp [intOf]
        | true =>
          have HBx := hide (HB0.out (by simp) (by simp))
          have hne := fun W => neq_cap yC yE yB yT yP yY yR true yC yE yB yT yP yY yR true W
          rw [capEq_self] at hne
          simp only [Bool.not_true] at hne
          have HCx := hide (fun W => clear_any yC yE yB yT yP yY yR true W)
          have l0 := hq0.lt
          have ls := hqs.lt
          have KK : Hid (∀ W, Below w3.heap.size w3 W → W.cell? ⟨w1.heap.size, 0, none⟩ = some (.int .u32 yC) ∧ W.cell? ⟨w1.heap.size, 1, none⟩ = some (.int .u8 yE) ∧ W.cell? ⟨w1.heap.size, 2, none⟩ = some (.int .u16 yB) ∧ W.cell? ⟨w1.heap.size, 3, none⟩ = some (.int .u16 yT) ∧ W.cell? ⟨w1.heap.size, 4, none⟩ = some (.int .u16 yP) ∧ W.cell? ⟨w1.heap.size, 5, none⟩ = some (.int .u16 yY) ∧ W.cell? ⟨w1.heap.size, 6, none⟩ = some (.int .u32 yR) ∧ W.cell? ⟨w1.heap.size, 7, none⟩ = some (.bool true) ∧ W.cell? ⟨w.heap.size, 0, none⟩ = some (.int .u32 cC) ∧ W.cell? ⟨w.heap.size, 1, none⟩ = some (.int .u8 cE) ∧ W.cell? ⟨w.heap.size, 2, none⟩ = some (.int .u16 cB) ∧ W.cell? ⟨w.heap.size, 3, none⟩ = some (.int .u16 cT) ∧ W.cell? ⟨w.heap.size, 4, none⟩ = some (.int .u16 cP) ∧ W.cell? ⟨w.heap.size, 5, none⟩ = some (.int .u16 cY) ∧ W.cell? ⟨w.heap.size, 6, none⟩ = some (.int .u32 cR) ∧ W.cell? ⟨w.heap.size, 7, none⟩ = some (.bool cV)) := fun W hW => ⟨(hqs.below hW hqs.lt).cell 0, (hqs.below hW hqs.lt).cell 1, (hqs.below hW hqs.lt).cell 2, (hqs.below hW hqs.lt).cell 3, (hqs.below hW hqs.lt).cell 4, (hqs.below hW hqs.lt).cell 5, (hqs.below hW hqs.lt).cell 6, (hqs.below hW hqs.lt).cell 7, (hq0.below hW hq0.lt).cell 0, (hq0.below hW hq0.lt).cell 1, (hq0.below hW hq0.lt).cell 2, (hq0.below hW hq0.lt).cell 3, (hq0.below hW hq0.lt).cell 4, (hq0.below hW hq0.lt).cell 5, (hq0.below hW hq0.lt).cell 6, (hq0.below hW hq0.lt).cell 7⟩
          have hK : Below w3.heap.size w3 w3 := Below.refl _ _
          have HKB := hide kb
          have HQ0 := hide hq0
          clear kb hq0 hqs
          go_wp2_with fail
          go_region_held3 (fun w' => w'.cell? ⟨w1.heap.size, 0, none⟩ = some (.int .u32 yC) ∧ w'.cell? ⟨w1.heap.size, 1, none⟩ = some (.int .u8 yE) ∧ w'.cell? ⟨w1.heap.size, 2, none⟩ = some (.int .u16 yB) ∧ w'.cell? ⟨w1.heap.size, 3, none⟩ = some (.int .u16 yT) ∧ w'.cell? ⟨w1.heap.size, 4, none⟩ = some (.int .u16 yP) ∧ w'.cell? ⟨w1.heap.size, 5, none⟩ = some (.int .u16 yY) ∧ w'.cell? ⟨w1.heap.size, 6, none⟩ = some (.int .u32 yR) ∧ w'.cell? ⟨w1.heap.size, 7, none⟩ = some (.bool true) ∧ w'.cell? ⟨w.heap.size, 0, none⟩ = some (.int .u32 cC) ∧ w'.cell? ⟨w.heap.size, 1, none⟩ = some (.int .u8 cE) ∧ w'.cell? ⟨w.heap.size, 2, none⟩ = some (.int .u16 cB) ∧ w'.cell? ⟨w.heap.size, 3, none⟩ = some (.int .u16 cT) ∧ w'.cell? ⟨w.heap.size, 4, none⟩ = some (.int .u16 cP) ∧ w'.cell? ⟨w.heap.size, 5, none⟩ = some (.int .u16 cY) ∧ w'.cell? ⟨w.heap.size, 6, none⟩ = some (.int .u32 cR) ∧ w'.cell? ⟨w.heap.size, 7, none⟩ = some (.bool cV)) ((refine KK.out _ ?_; repeat (first | (with_reducible exact hK) | (with_reducible refine Below.drew ?_) | (with_reducible refine below_drewN ?_ _))))
            (first
              | (go_at_call 22; refine (HCx.out _).mono ?_; rintro e' w9 ⟨rfl, hb⟩; have hK' : Below w3.heap.size w3 w9 := (by refine Below.trans ?_ (hb.mono ?_); (first | (with_reducible exact hK) | (with_reducible exact hK.drew) | (with_reducible exact below_drewN hK _)); (first | (with_reducible exact hK.size) | exact hK.size)); clear hb hK; have hK := hK'; clear hK')
              | (go_at_call 30; refine (HBx.out _).mono ?_; rintro e' w9 ⟨rfl, hb⟩; have hK' : Below w3.heap.size w3 w9 := (by refine Below.trans ?_ (hb.mono ?_); (first | (with_reducible exact hK) | (with_reducible exact hK.drew) | (with_reducible exact below_drewN hK _)); (first | (with_reducible exact hK.size) | exact hK.size)); clear hb hK; have hK := hK'; clear hK'))
          all_goals
            have HKC := hide hK; clear hK
            go_wp2
            go_roundw
            case rel => exact ⟨1, by omega, rfl, by first | exact HQ0.out.below HKC.out l0 | exact (HQ0.out.below HKC.out l0).drew | exact (HQ0.out.below HKC.out l0).drewN _, by first | exact HKB.out.trans (HKC.out.mono HKB.out.size) | exact (HKB.out.trans (HKC.out.mono HKB.out.size)).drew | exact below_drewN (HKB.out.trans (HKC.out.mono HKB.out.size)) _⟩
            case measure => simp [intOf]
    · go_wp2_with fail
      refine (HS0.out _).mono ?_
      rintro e w1 ⟨rfl, hb1⟩
      have lw := hq0.lt
      have lw1 := hb1.size
      have hq0 := (hq0.below hb1 hq0.lt).alloc (.cells #[.int .u32 yC, .int .u8 yE, .int .u16 yB, .int .u16 yT, .int .u16 yP, .int .u16 yY, .int .u32 yR, .bool v0] 25)
      have hqs := Blk.new w1 25 #[.int .u32 yC, .int .u8 yE, .int .u16 yB, .int .u16 yT, .int .u16 yP, .int .u16 yY, .int .u32 yR, .bool v0]
      have kb := (kb.trans (hb1.mono kb.size)).alloc (Nat.le_trans kb.size hb1.size) (.cells #[.int .u32 yC, .int .u8 yE, .int .u16 yB, .int .u16 yT, .int .u16 yP, .int .u16 yY, .int .u32 yR, .bool v0] 25)
      have hne0 : w.heap.size ≠ w1.heap.size := by omega
      have hle0 : w.heap.size ≤ w1.heap.size := by omega
      clear hb1 p0 p1 p2 p3 p4 p5 p6 p7
      have p0 := hq0.cell 0
      have p1 := hq0.cell 1
      have p2 := hq0.cell 2
      have p3 := hq0.cell 3
      have p4 := hq0.cell 4
      have p5 := hq0.cell 5
      have p6 := hq0.cell 6
      have p7 := hq0.cell 7
      simp at p0 p1 p2 p3 p4 p5 p6 p7
      go_wp2_with fail
      refine (HS1.out _).mono ?_
      rintro e w2 ⟨rfl, hb2⟩
      have hq0 := hq0.below hb2 hq0.lt
      have hqs := hqs.below hb2 hqs.lt
      have kb := kb.trans (hb2.mono kb.size)
      clear hb2 p0 p1 p2 p3 p4 p5 p6 p7
      have r0 := hqs.cell 0
      have rz0 := hqs.frozen 0
      have r1 := hqs.cell 1
      have rz1 := hqs.frozen 1
      have r2 := hqs.cell 2
      have rz2 := hqs.frozen 2
      have r3 := hqs.cell 3
      have rz3 := hqs.frozen 3
      have r4 := hqs.cell 4
      have rz4 := hqs.frozen 4
      have r5 := hqs.cell 5
      have rz5 := hqs.frozen 5
      have r6 := hqs.cell 6
      have rz6 := hqs.frozen 6
      have r7 := hqs.cell 7
      have rz7 := hqs.frozen 7
      simp at r0 r1 r2 r3 r4 r5 r6 r7
      have gq : Blk ((((((((w2.setCell ⟨w1.heap.size, 0, none⟩ (.int .u32 zC)).setCell ⟨w1.heap.size, 1, none⟩ (.int .u8 zE)).setCell ⟨w1.heap.size, 2, none⟩ (.int .u16 zB)).setCell ⟨w1.heap.size, 3, none⟩ (.int .u16 zT)).setCell ⟨w1.heap.size, 4, none⟩ (.int .u16 zP)).setCell ⟨w1.heap.size, 5, none⟩ (.int .u16 zY)).setCell ⟨w1.heap.size, 6, none⟩ (.int .u32 zR)).setCell ⟨w1.heap.size, 7, none⟩ (.bool v1)) w.heap.size 25 #[.int .u32 cC, .int .u8 cE, .int .u16 cB, .int .u16 cT, .int .u16 cP, .int .u16 cY, .int .u32 cR, .bool cV] := ((((((((hq0.far (p := ⟨w1.heap.size, 0, none⟩) hne0 _).far (p := ⟨w1.heap.size, 1, none⟩) hne0 _).far (p := ⟨w1.heap.size, 2, none⟩) hne0 _).far (p := ⟨w1.heap.size, 3, none⟩) hne0 _).far (p := ⟨w1.heap.size, 4, none⟩) hne0 _).far (p := ⟨w1.heap.size, 5, none⟩) hne0 _).far (p := ⟨w1.heap.size, 6, none⟩) hne0 _).far (p := ⟨w1.heap.size, 7, none⟩) hne0 _)
      have gs : Blk ((((((((w2.setCell ⟨w1.heap.size, 0, none⟩ (.int .u32 zC)).setCell ⟨w1.heap.size, 1, none⟩ (.int .u8 zE)).setCell ⟨w1.heap.size, 2, none⟩ (.int .u16 zB)).setCell ⟨w1.heap.size, 3, none⟩ (.int .u16 zT)).setCell ⟨w1.heap.size, 4, none⟩ (.int .u16 zP)).setCell ⟨w1.heap.size, 5, none⟩ (.int .u16 zY)).setCell ⟨w1.heap.size, 6, none⟩ (.int .u32 zR)).setCell ⟨w1.heap.size, 7, none⟩ (.bool v1)) w1.heap.size 25 #[.int .u32 zC, .int .u8 zE, .int .u16 zB, .int .u16 zT, .int .u16 zP, .int .u16 zY, .int .u32 zR, .bool v1] := ((((((((hqs.set_ 0 _).set_ 1 _).set_ 2 _).set_ 3 _).set_ 4 _).set_ 5 _).set_ 6 _).set_ 7 _)
      have gk : Below w.heap.size w ((((((((w2.setCell ⟨w1.heap.size, 0, none⟩ (.int .u32 zC)).setCell ⟨w1.heap.size, 1, none⟩ (.int .u8 zE)).setCell ⟨w1.heap.size, 2, none⟩ (.int .u16 zB)).setCell ⟨w1.heap.size, 3, none⟩ (.int .u16 zT)).setCell ⟨w1.heap.size, 4, none⟩ (.int .u16 zP)).setCell ⟨w1.heap.size, 5, none⟩ (.int .u16 zY)).setCell ⟨w1.heap.size, 6, none⟩ (.int .u32 zR)).setCell ⟨w1.heap.size, 7, none⟩ (.bool v1)) := ((((((((kb.setCell (p := ⟨w1.heap.size, 0, none⟩) hle0 _).setCell (p := ⟨w1.heap.size, 1, none⟩) hle0 _).setCell (p := ⟨w1.heap.size, 2, none⟩) hle0 _).setCell (p := ⟨w1.heap.size, 3, none⟩) hle0 _).setCell (p := ⟨w1.heap.size, 4, none⟩) hle0 _).setCell (p := ⟨w1.heap.size, 5, none⟩) hle0 _).setCell (p := ⟨w1.heap.size, 6, none⟩) hle0 _).setCell (p := ⟨w1.heap.size, 7, none⟩) hle0 _)
      clear hq0 hqs kb
      have hq0 := gq
      have hqs := gs
      have kb := gk
      clear gq gs gk
      cases v1 with
      | false =>
        have HKB := hide kb
        have HQ0 := hide hq0
        clear kb hq0 hqs
        go_wp2
        go_roundw
        case rel => exact ⟨2, by omega, rfl, HQ0.out, HKB.out⟩
        case measure => simp [intOf]
      | true =>
        have p0 := hq0.cell 0
        have p1 := hq0.cell 1
        have p2 := hq0.cell 2
        have p3 := hq0.cell 3
        have p4 := hq0.cell 4
        have p5 := hq0.cell 5
        have p6 := hq0.cell 6
        have p7 := hq0.cell 7
        simp at p0 p1 p2 p3 p4 p5 p6 p7
        have r0 := hqs.cell 0
        have r1 := hqs.cell 1
        have r2 := hqs.cell 2
        have r3 := hqs.cell 3
        have r4 := hqs.cell 4
        have r5 := hqs.cell 5
        have r6 := hqs.cell 6
        have r7 := hqs.cell 7
        simp at r0 r1 r2 r3 r4 r5 r6 r7
        go_wp2_with fail
        refine (HO1.out _).mono ?_
        rintro e w3 ⟨rfl, hb3⟩
        have hq0 := hq0.below hb3 hq0.lt
        have hqs := hqs.below hb3 hqs.lt
        have kb := kb.trans (hb3.mono kb.size)
        clear hb3 p0 p1 p2 p3 p4 p5 p6 p7 r0 r1 r2 r3 r4 r5 r6 r7
        cases k1 with
        | false =>
          have HKB := hide kb
          have HQ0 := hide hq0
          clear kb hq0 hqs
          go_wp2
          go_roundw
          case rel => exact ⟨2, by omega, rfl, HQ0.out, HKB.out⟩
          case measure => simp [intOf]
        | true =>
          have HBx := hide (HB1.out (by simp) (by simp))
          have hne := fun W => neq_cap zC zE zB zT zP zY zR true zC zE zB zT zP zY zR true W
          rw [capEq_self] at hne
          simp only [Bool.not_true] at hne
          have HCx := hide (fun W => clear_any zC zE zB zT zP zY zR true W)
          have l0 := hq0.lt
          have ls := hqs.lt
          have KK : Hid (∀ W, Below w3.heap.size w3 W → W.cell? ⟨w1.heap.size, 0, none⟩ = some (.int .u32 zC) ∧ W.cell? ⟨w1.heap.size, 1, none⟩ = some (.int .u8 zE) ∧ W.cell? ⟨w1.heap.size, 2, none⟩ = some (.int .u16 zB) ∧ W.cell? ⟨w1.heap.size, 3, none⟩ = some (.int .u16 zT) ∧ W.cell? ⟨w1.heap.size, 4, none⟩ = some (.int .u16 zP) ∧ W.cell? ⟨w1.heap.size, 5, none⟩ = some (.int .u16 zY) ∧ W.cell? ⟨w1.heap.size, 6, none⟩ = some (.int .u32 zR) ∧ W.cell? ⟨w1.heap.size, 7, none⟩ = some (.bool true) ∧ W.cell? ⟨w.heap.size, 0, none⟩ = some (.int .u32 cC) ∧ W.cell? ⟨w.heap.size, 1, none⟩ = some (.int .u8 cE) ∧ W.cell? ⟨w.heap.size, 2, none⟩ = some (.int .u16 cB) ∧ W.cell? ⟨w.heap.size, 3, none⟩ = some (.int .u16 cT) ∧ W.cell? ⟨w.heap.size, 4, none⟩ = some (.int .u16 cP) ∧ W.cell? ⟨w.heap.size, 5, none⟩ = some (.int .u16 cY) ∧ W.cell? ⟨w.heap.size, 6, none⟩ = some (.int .u32 cR) ∧ W.cell? ⟨w.heap.size, 7, none⟩ = some (.bool cV)) := fun W hW => ⟨(hqs.below hW hqs.lt).cell 0, (hqs.below hW hqs.lt).cell 1, (hqs.below hW hqs.lt).cell 2, (hqs.below hW hqs.lt).cell 3, (hqs.below hW hqs.lt).cell 4, (hqs.below hW hqs.lt).cell 5, (hqs.below hW hqs.lt).cell 6, (hqs.below hW hqs.lt).cell 7, (hq0.below hW hq0.lt).cell 0, (hq0.below hW hq0.lt).cell 1, (hq0.below hW hq0.lt).cell 2, (hq0.below hW hq0.lt).cell 3, (hq0.below hW hq0.lt).cell 4, (hq0.below hW hq0.lt).cell 5, (hq0.below hW hq0.lt).cell 6, (hq0.below hW hq0.lt).cell 7⟩
          have hK : Below w3.heap.size w3 w3 := Below.refl _ _
          have HKB := hide kb
          have HQ0 := hide hq0
          clear kb hq0 hqs
          go_wp2_with fail
          go_region_held3 (fun w' => w'.cell? ⟨w1.heap.size, 0, none⟩ = some (.int .u32 zC) ∧ w'.cell? ⟨w1.heap.size, 1, none⟩ = some (.int .u8 zE) ∧ w'.cell? ⟨w1.heap.size, 2, none⟩ = some (.int .u16 zB) ∧ w'.cell? ⟨w1.heap.size, 3, none⟩ = some (.int .u16 zT) ∧ w'.cell? ⟨w1.heap.size, 4, none⟩ = some (.int .u16 zP) ∧ w'.cell? ⟨w1.heap.size, 5, none⟩ = some (.int .u16 zY) ∧ w'.cell? ⟨w1.heap.size, 6, none⟩ = some (.int .u32 zR) ∧ w'.cell? ⟨w1.heap.size, 7, none⟩ = some (.bool true) ∧ w'.cell? ⟨w.heap.size, 0, none⟩ = some (.int .u32 cC) ∧ w'.cell? ⟨w.heap.size, 1, none⟩ = some (.int .u8 cE) ∧ w'.cell? ⟨w.heap.size, 2, none⟩ = some (.int .u16 cB) ∧ w'.cell? ⟨w.heap.size, 3, none⟩ = some (.int .u16 cT) ∧ w'.cell? ⟨w.heap.size, 4, none⟩ = some (.int .u16 cP) ∧ w'.cell? ⟨w.heap.size, 5, none⟩ = some (.int .u16 cY) ∧ w'.cell? ⟨w.heap.size, 6, none⟩ = some (.int .u32 cR) ∧ w'.cell? ⟨w.heap.size, 7, none⟩ = some (.bool cV)) ((refine KK.out _ ?_; repeat (first | (with_reducible exact hK) | (with_reducible refine Below.drew ?_) | (with_reducible refine below_drewN ?_ _))))
            (first
              | (go_at_call 22; refine (HCx.out _).mono ?_; rintro e' w9 ⟨rfl, hb⟩; have hK' : Below w3.heap.size w3 w9 := (by refine Below.trans ?_ (hb.mono ?_); (first | (with_reducible exact hK) | (with_reducible exact hK.drew) | (with_reducible exact below_drewN hK _)); (first | (with_reducible exact hK.size) | exact hK.size)); clear hb hK; have hK := hK'; clear hK')
              | (go_at_call 30; refine (HBx.out _).mono ?_; rintro e' w9 ⟨rfl, hb⟩; have hK' : Below w3.heap.size w3 w9 := (by refine Below.trans ?_ (hb.mono ?_); (first | (with_reducible exact hK) | (with_reducible exact hK.drew) | (with_reducible exact below_drewN hK _)); (first | (with_reducible exact hK.size) | exact hK.size)); clear hb hK; have hK := hK'; clear hK'))
          all_goals
            have HKC := hide hK; clear hK
            go_wp2
            go_roundw
            case rel => exact ⟨2, by omega, rfl, by first | exact HQ0.out.below HKC.out l0 | exact (HQ0.out.below HKC.out l0).drew | exact (HQ0.out.below HKC.out l0).drewN _, by first | exact HKB.out.trans (HKC.out.mono HKB.out.size) | exact (HKB.out.trans (HKC.out.mono HKB.out.size)).drew | exact below_drewN (HKB.out.trans (HKC.out.mono HKB.out.size)) _⟩
            case measure => simp [intOf]
    · have HKB := hide kb
      clear kb hq0
      go_wp2_with fail
      refine (dworks_any _).mono ?_
      rintro e w5 ⟨rfl, hb5⟩
      have HB5 := hide hb5; clear hb5
      go_wp2
      go_ret
      exact ⟨rfl, HKB.out.trans (HB5.out.mono HKB.out.size)⟩

theorem again_capB (cC cE cB cT cP cY cR n : Nat) (cl : capB cC cE cB cT cP cY cR) (hr : rightN cC (cC + n) = true) : capB cC (encE cC (cC + n)) (encB cC (cC + n)) (encT cC (cC + n)) cP cY cR := by
  have hk := expo_le cC (cC + n)
  refine ⟨cl.1, ?_, ?_, ?_, cl.2.2.2.2.1, cl.2.2.2.2.2.1, cl.2.2.2.2.2.2⟩
  · unfold encE; rw [if_pos hr]; omega
  · unfold encB; rw [if_pos hr]; omega
  · unfold encT; rw [if_pos hr]; omega
theorem again_bld (cC cE cB cT cP cY cR : Nat) (cV : Bool) (n x y : Nat) (ex : Bool) (cl : capB cC cE cB cT cP cY cR) (hr : rightN cC (cC + n) = true) (hx : (decN cE cB cT cC).1 = x) (hy : (decN cE cB cT cC).2 = y) (hv : setV cC cY cV n ex x y = true) (hk : (soundN (encE cC (cC + n)) (encB cC (cC + n)) (encT cC (cC + n)) cP cY cR) = true) (W : World) :
    Calls Try.prog 30 #[.agg #[.int .u32 cC, .int .u8 (encE cC (cC + n)), .int .u16 (encB cC (cC + n)), .int .u16 (encT cC (cC + n)), .int .u16 cP, .int .u16 cY, .int .u32 cR, .bool false], .agg #[.int .u32 cC, .int .u8 cE, .int .u16 cB, .int .u16 cT, .int .u16 cP, .int .u16 cY, .int .u32 cR, .bool cV]] W fun e w' => e = .returned (.agg #[.int .u32 cC, .int .u8 (encE cC (cC + n)), .int .u16 (encB cC (cC + n)), .int .u16 (encT cC (cC + n)), .int .u16 cP, .int .u16 cY, .int .u32 cR, .bool true]) ∧ Below W.heap.size W w' := by
  obtain ⟨r1, r2⟩ := rightN_true hr
  have hd := enc_at (b := cC) (t := cC + n) (c := cC) cl.1 r1 r2 (Nat.le_refl _) r1
  have := build_any cC (encE cC (cC + n)) (encB cC (cC + n)) (encT cC (cC + n)) cP cY cR false cC cE cB cT cP cY cR cV (dnN cC (expoN cC (cC + n))) (upN (cC + n) (expoN cC (cC + n))) x y W (again_capB cC cE cB cT cP cY cR n cl hr) cl (by rw [hd]) (by rw [hd]) hx hy
  simp only [setV, inR, Bool.and_eq_true, decide_eq_true_eq] at hv
  have hb : (freeN cY cV && bldB (encE cC (cC + n)) (encB cC (cC + n)) (encT cC (cC + n)) cP cY cR cP (dnN cC (expoN cC (cC + n))) (upN (cC + n) (expoN cC (cC + n))) x y) = true := by
    have hf := hv.1.1
    have hy0 : cY = 0 := by
      simp only [freeN, Bool.and_eq_true, decide_eq_true_eq] at hf; exact hf.2
    unfold bldB withinN subP inN
    rw [hf, hk, decide_eq_true hy0, decide_eq_true hv.2.1, decide_eq_true hv.2.2]
    simp
  rwa [hb] at this
theorem again_walk (cC cE cB cT cP cY cR : Nat) (cV : Bool) (n : Nat) (w : World) (cl : capB cC cE cB cT cP cY cR) (hn : n < 4294967296) :
    Calls Try.prog 10 #[.agg #[.int .u32 cC, .int .u8 cE, .int .u16 cB, .int .u16 cT, .int .u16 cP, .int .u16 cY, .int .u32 cR, .bool cV], .int .u32 n] w fun e w' => e = .returned (.bool true) ∧ Below w.heap.size w w' := by
  by_cases hr : rightN cC (cC + n) = true
  · have hcb := again_capB cC cE cB cT cP cY cR n cl hr
    exact again_core cC cE cB cT cP cY cR cV n cC (encE cC (cC + n)) (encB cC (cC + n)) (encT cC (cC + n)) cP cY cR (setV cC cY cV n false _ _) (soundN (encE cC (cC + n)) (encB cC (cC + n)) (encT cC (cC + n)) cP cY cR) cC (encE cC (cC + n)) (encB cC (cC + n)) (encT cC (cC + n)) cP cY cR (setV cC cY cV n true _ _) (soundN (encE cC (cC + n)) (encB cC (cC + n)) (encT cC (cC + n)) cP cY cR) w
      (fun W => set_y cC cE cB cT cP cY cR cV n _ _ W cl hn rfl rfl hr) (fun W => sound_any cC (encE cC (cC + n)) (encB cC (cC + n)) (encT cC (cC + n)) cP cY cR true W hcb) (fun hv hk W => again_bld cC cE cB cT cP cY cR cV n _ _ false cl hr rfl rfl hv hk W)
      (fun W => exact_y cC cE cB cT cP cY cR cV n _ _ W cl hn rfl rfl hr) (fun W => sound_any cC (encE cC (cC + n)) (encB cC (cC + n)) (encT cC (cC + n)) cP cY cR true W hcb) (fun hv hk W => again_bld cC cE cB cT cP cY cR cV n _ _ true cl hr rfl rfl hv hk W)
  · have hr' : rightN cC (cC + n) = false := by simpa using hr
    exact again_core cC cE cB cT cP cY cR cV n cC cE cB cT cP cY cR false (soundN cE cB cT cP cY cR) cC cE cB cT cP cY cR false (soundN cE cB cT cP cY cR) w
      (fun W => set_n cC cE cB cT cP cY cR cV n W cl hn hr') (fun W => sound_any cC cE cB cT cP cY cR true W cl) (fun hv _ _ => Bool.noConfusion hv)
      (fun W => exact_n cC cE cB cT cP cY cR cV n W cl hn hr') (fun W => sound_any cC cE cB cT cP cY cR true W cl) (fun hv _ _ => Bool.noConfusion hv)
theorem again_law : LawWalk 10 Try.f10 := by
  intro H enc W base args ds p hval hA
  rw [Try.params10] at hA hval
  obtain ⟨v0, vs0, d0, ds0, p0, q0, hargs, rfl, rfl, h0, r0⟩ := trodAll_cons hA
  obtain ⟨v1, vs1, d1, ds1, p1, q1, rfl, rfl, rfl, h1, r1⟩ := trodAll_cons r0
  obtain ⟨rfl, rfl, rfl⟩ := trodAll_nil r1
  obtain rfl : args = #[v0, v1] := by cases args; simp_all
  obtain ⟨cs0, rfl, hcl0, hcf0⟩ := open_agg_all Try.underlying25 (by kernel_rfl) (by kernel_rfl) (hval 0 _ v0 rfl rfl) h0
  obtain ⟨u0_0, y0_0, n0_0, hu0_0, hy0_0⟩ := hcf0 0 _ rfl
  obtain ⟨a0_0, e0_0, _, w0_0⟩ := DataW.trod_int Try.underlying22 hy0_0
  simp at e0_0; subst e0_0
  have b0_0 := wf_u32 w0_0
  obtain ⟨a0_0, rfl⟩ := Int.eq_ofNat_of_zero_le b0_0.1
  obtain ⟨u0_1, y0_1, n0_1, hu0_1, hy0_1⟩ := hcf0 1 _ rfl
  obtain ⟨a0_1, e0_1, _, w0_1⟩ := DataW.trod_int Try.underlying5 hy0_1
  simp at e0_1; subst e0_1
  have b0_1 := wf_u8 w0_1
  obtain ⟨a0_1, rfl⟩ := Int.eq_ofNat_of_zero_le b0_1.1
  obtain ⟨u0_2, y0_2, n0_2, hu0_2, hy0_2⟩ := hcf0 2 _ rfl
  obtain ⟨a0_2, e0_2, _, w0_2⟩ := DataW.trod_int Try.underlying23 hy0_2
  simp at e0_2; subst e0_2
  have b0_2 := wf_u16 w0_2
  obtain ⟨a0_2, rfl⟩ := Int.eq_ofNat_of_zero_le b0_2.1
  obtain ⟨u0_3, y0_3, n0_3, hu0_3, hy0_3⟩ := hcf0 3 _ rfl
  obtain ⟨a0_3, e0_3, _, w0_3⟩ := DataW.trod_int Try.underlying23 hy0_3
  simp at e0_3; subst e0_3
  have b0_3 := wf_u16 w0_3
  obtain ⟨a0_3, rfl⟩ := Int.eq_ofNat_of_zero_le b0_3.1
  obtain ⟨u0_4, y0_4, n0_4, hu0_4, hy0_4⟩ := hcf0 4 _ rfl
  obtain ⟨a0_4, e0_4, _, w0_4⟩ := DataW.trod_int Try.underlying23 hy0_4
  simp at e0_4; subst e0_4
  have b0_4 := wf_u16 w0_4
  obtain ⟨a0_4, rfl⟩ := Int.eq_ofNat_of_zero_le b0_4.1
  obtain ⟨u0_5, y0_5, n0_5, hu0_5, hy0_5⟩ := hcf0 5 _ rfl
  obtain ⟨a0_5, e0_5, _, w0_5⟩ := DataW.trod_int Try.underlying23 hy0_5
  simp at e0_5; subst e0_5
  have b0_5 := wf_u16 w0_5
  obtain ⟨a0_5, rfl⟩ := Int.eq_ofNat_of_zero_le b0_5.1
  obtain ⟨u0_6, y0_6, n0_6, hu0_6, hy0_6⟩ := hcf0 6 _ rfl
  obtain ⟨a0_6, e0_6, _, w0_6⟩ := DataW.trod_int Try.underlying22 hy0_6
  simp at e0_6; subst e0_6
  have b0_6 := wf_u32 w0_6
  obtain ⟨a0_6, rfl⟩ := Int.eq_ofNat_of_zero_le b0_6.1
  obtain ⟨u0_7, y0_7, n0_7, hu0_7, hy0_7⟩ := hcf0 7 _ rfl
  obtain ⟨a0_7, e0_7, _⟩ := DataW.trod_bool Try.underlying4 hy0_7
  simp at e0_7; subst e0_7
  obtain rfl := eq8 hcl0 hu0_0 hu0_1 hu0_2 hu0_3 hu0_4 hu0_5 hu0_6 hu0_7
  clear hcf0
  obtain ⟨a1, rfl, rfl, rfl, w1⟩ := open_int Try.underlying22 (hval 1 _ v1 rfl rfl) h1
  have b1 := wf_u32 w1
  have h0 : capB a0_0 a0_1 a0_2 a0_3 a0_4 a0_5 a0_6 := ⟨by omega, by omega, by omega, by omega, by omega, by omega, by omega⟩
  obtain ⟨n, rfl⟩ := Int.eq_ofNat_of_zero_le b1.1
  exact again_walk a0_0 a0_1 a0_2 a0_3 a0_4 a0_5 a0_6 a0_7 n W h0 (by omega)
set_option maxRecDepth 100000 in
theorem deriveAgain_proved : Rows.DeriveAgainSaid :=
  OpenClaim.holds_of_wide 10 Try.f10 rfl rfl rfl rfl rfl rfl rfl ⟨rfl, rfl, rfl, rfl, rfl⟩ rfl rfl rfl rfl rfl (by kernel_rfl) Try.func10 (by kernel_rfl)
    (of_decide_eq_true (by kernel_rfl)) (by unfold Func.isWrapper; first | (rw [if_pos (by decide +kernel)]; kernel_rfl) | (rw [if_neg (by decide +kernel)]; exact ⟨rfl, rfl⟩))
    (fun os started H enc _ => law_lifted 10 Try.f10 Rows.deriveAgainSpec Rows.deriveAgainRow.domain Try.func10 (by kernel_rfl) rfl rfl
      (fun H ds hd => by match ds, hd with | [d0, d1], _ => exact ⟨rfl, rfl, rfl⟩) (by decide +kernel) again_law os started H enc
      (ChangeSpec.witness6 (enc := enc) (C := Try.checked) false ⟨#[], #[.agg #[.int .u32 0, .int .u8 0, .int .u16 0, .int .u16 0, .int .u16 0, .int .u16 0, .int .u32 0, .bool false], .int .u32 0], []⟩ 8 (by kernel_rfl) (by kernel_rfl) (by kernel_rfl) (by kernel_rfl)))
#print axioms deriveAgain_proved
end Go.Proofs.Ytljchnfofjmleaa
