/-
  DeriveLess: the loop over changes.
-/
import Derived.Test.YtljchnfofjmleaaDerLess
import Derived.Deep.DeepCutAuto
import Derived.Deep.CutRange
namespace Go.Proofs.Ytljchnfofjmleaa
open Go.ChangeShapes Go.WideShapes Go.ChangeAt Go.RowKit
open Go.ChangeMaps (open_string shut_string)
attribute [local go_sem ↓] Go.wp_at_zero Go.wp_at_succ

/-- n changes lie where A says. -/
def ChgAt (w : World) (A : Option Addr) (n : Nat) : Prop :=
  n = 0 ∨ ∃ g off, A = some ⟨g, off, none⟩ ∧ g < w.heap.size ∧ ∀ i, i < n → ∃ (q : Int) (m bC bE bB bT bP bY bR : Nat) (bV : Bool), m < 4294967296 ∧ capB bC bE bB bT bP bY bR ∧ (w.cell? ⟨g, off + i * 10, none⟩ = some (.int .i64 q) ∧ w.cell? ⟨g, off + i * 10 + 1, none⟩ = some (.int .u32 m) ∧ w.cell? ⟨g, off + i * 10 + 2, none⟩ = some (.int .u32 bC) ∧ w.cell? ⟨g, off + i * 10 + 3, none⟩ = some (.int .u8 bE) ∧ w.cell? ⟨g, off + i * 10 + 4, none⟩ = some (.int .u16 bB) ∧ w.cell? ⟨g, off + i * 10 + 5, none⟩ = some (.int .u16 bT) ∧ w.cell? ⟨g, off + i * 10 + 6, none⟩ = some (.int .u16 bP) ∧ w.cell? ⟨g, off + i * 10 + 7, none⟩ = some (.int .u16 bY) ∧ w.cell? ⟨g, off + i * 10 + 8, none⟩ = some (.int .u32 bR) ∧ w.cell? ⟨g, off + i * 10 + 9, none⟩ = some (.bool bV))
def LsA (w wr : World) (cC cE cB cT cP cY cR : Nat) (cV : Bool) (n : Nat) (z : Nat) (i : Value) : Prop := ∃ k : Nat, k ≤ 40 ∧ k ≤ n ∧ z = 40 - k ∧ i = .int .i64 k ∧ Blk wr w.heap.size 25 #[.int .u32 cC, .int .u8 cE, .int .u16 cB, .int .u16 cT, .int .u16 cP, .int .u16 cY, .int .u32 cR, .bool cV] ∧
  (∃ (nC nE nB nT nP nY nR : Nat) (nV : Bool), Blk wr (w.heap.size + 1) 25 #[.int .u32 nC, .int .u8 nE, .int .u16 nB, .int .u16 nT, .int .u16 nP, .int .u16 nY, .int .u32 nR, .bool nV] ∧ capB nC nE nB nT nP nY nR ∧ (nV = true → cV = true ∧ withinN nP cP (decN nE nB nT nC).1 (decN nE nB nT nC).2 (decN cE cB cT cC).1 (decN cE cB cT cC).2 = true)) ∧ Below w.heap.size w wr
theorem Blk.fill {w : World} {g : Nat} {t : TypeId} {x0 x1 x2 x3 x4 x5 x6 x7 : Value} (h : Blk w g t #[x0, x1, x2, x3, x4, x5, x6, x7]) (y0 y1 y2 y3 y4 y5 y6 y7 : Value) :
    Blk ((((((((w.setCell ⟨g, 0, none⟩ y0).setCell ⟨g, 1, none⟩ y1).setCell ⟨g, 2, none⟩ y2).setCell ⟨g, 3, none⟩ y3).setCell ⟨g, 4, none⟩ y4).setCell ⟨g, 5, none⟩ y5).setCell ⟨g, 6, none⟩ y6).setCell ⟨g, 7, none⟩ y7) g t #[y0, y1, y2, y3, y4, y5, y6, y7] := by
  have := (((((((h.set_ 0 y0).set_ 1 y1).set_ 2 y2).set_ 3 y3).set_ 4 y4).set_ 5 y5).set_ 6 y6).set_ 7 y7
  simpa using this
theorem within_yes (aC aE aB aT aP aY aR : Nat) (aV : Bool) (bC bE bB bT bP bY bR : Nat) (bV : Bool) (W : World) (al : capB aC aE aB aT aP aY aR) (bl : capB bC bE bB bT bP bY bR) (h : withinN aP bP (decN aE aB aT aC).1 (decN aE aB aT aC).2 (decN bE bB bT bC).1 (decN bE bB bT bC).2 = true) :
    Calls Try.prog 34 #[.agg #[.int .u32 aC, .int .u8 aE, .int .u16 aB, .int .u16 aT, .int .u16 aP, .int .u16 aY, .int .u32 aR, .bool aV], .agg #[.int .u32 bC, .int .u8 bE, .int .u16 bB, .int .u16 bT, .int .u16 bP, .int .u16 bY, .int .u32 bR, .bool bV]] W fun e w' => e = .returned (.bool true) ∧ Below W.heap.size W w' := by
  have := within_any aC aE aB aT aP aY aR aV bC bE bB bT bP bY bR bV _ _ _ _ W al bl rfl rfl rfl rfl
  rw [h] at this
  exact this
def LsC (wr wx : World) (nC nE nB nT nP nY nR : Nat) (nV : Bool) (rC rE rB rT rP rY rR : Nat) (rV : Bool) (s7 s8 : Value) : Prop := ∃ b7 b8 : Nat, s7 = .pointer (some ⟨b7, 0, none⟩) ∧ s8 = .pointer (some ⟨b8, 0, none⟩) ∧ Blk wx b7 25 #[.int .u32 rC, .int .u8 rE, .int .u16 rB, .int .u16 rT, .int .u16 rP, .int .u16 rY, .int .u32 rR, .bool rV] ∧ Blk wx b8 25 #[.int .u32 nC, .int .u8 nE, .int .u16 nB, .int .u16 nT, .int .u16 nP, .int .u16 nY, .int .u32 nR, .bool nV] ∧ Below wr.heap.size wr wx
set_option maxRecDepth 100000 in
set_option maxHeartbeats 8000000 in
theorem less_loop (cC cE cB cT cP cY cR : Nat) (cV : Bool) (A : Option Addr) (n cap : Nat) (w : World) (cl : capB cC cE cB cT cP cY cR) (hA : ChgAt w A n) :
    Calls Try.prog 12 #[.agg #[.int .u32 cC, .int .u8 cE, .int .u16 cB, .int .u16 cT, .int .u16 cP, .int .u16 cY, .int .u32 cR, .bool cV], .slice A n cap] w fun e w' => e = .returned (.bool true) ∧ Below w.heap.size w w' := by
  have HA := hide hA
  clear hA
  have CL := hide cl
  clear cl
  go_enter Try.func12, Try.ntmps12
  go_wp2
  go_loopg [6] 40 (fun z i wr => LsA w wr cC cE cB cT cP cY cR cV n z i)
  case atStart =>
    refine ⟨0, by omega, by omega, rfl, rfl, ?_, ⟨_, _, _, _, _, _, _, _, ?_, CL.out, fun h => ⟨h, within_refl _ _ _⟩⟩, ?_⟩
    · exact Blk.new1 w _ _ _
    · exact Blk.new2 w _ _ _
    · (repeat (first | (with_reducible exact Below.refl _ _) | (with_reducible refine Below.drew ?_) | (with_reducible refine below_drewN ?_ _) | (with_reducible refine Below.alloc ?_ (by simp <;> omega) _) | (with_reducible refine Below.setCell ?_ (by simp <;> omega) _)))
  case round =>
    obtain ⟨k, hk40, hkn, rfl, rfl, hqc, ⟨nC, nE, nB, nT, nP, nY, nR, nV, hqn, hnl, hnv⟩, kb⟩ := hrel
    by_cases h1 : k < n
    rotate_left
    · have HKB := hide kb
      clear kb hqc hqn
      have HNV := hide hnv
      clear hnv hnl
      go_wp2_with fail
      refine (dworks_any _).mono ?_
      rintro e w5 ⟨rfl, hb5⟩
      have HB5 := hide hb5; clear hb5
      go_wp2
      go_ret
      exact ⟨rfl, Below.trans HKB.out (HB5.out.mono HKB.out.size)⟩
    by_cases h2 : k = 40
    · subst h2
      have HKB := hide kb
      clear kb hqc hqn
      have HNV := hide hnv
      clear hnv hnl
      go_wp2_with fail
      refine (dworks_any _).mono ?_
      rintro e w5 ⟨rfl, hb5⟩
      have HB5 := hide hb5; clear hb5
      go_wp2
      go_ret
      exact ⟨rfl, Below.trans HKB.out (HB5.out.mono HKB.out.size)⟩
    have h3 : (k : Int) < 40 := by omega
    obtain ⟨g, off, rfl, hg, hel⟩ : ∃ g off, A = some ⟨g, off, none⟩ ∧ g < w.heap.size ∧ ∀ i, i < n → ∃ (q : Int) (m bC bE bB bT bP bY bR : Nat) (bV : Bool), m < 4294967296 ∧ capB bC bE bB bT bP bY bR ∧ (w.cell? ⟨g, off + i * 10, none⟩ = some (.int .i64 q) ∧ w.cell? ⟨g, off + i * 10 + 1, none⟩ = some (.int .u32 m) ∧ w.cell? ⟨g, off + i * 10 + 2, none⟩ = some (.int .u32 bC) ∧ w.cell? ⟨g, off + i * 10 + 3, none⟩ = some (.int .u8 bE) ∧ w.cell? ⟨g, off + i * 10 + 4, none⟩ = some (.int .u16 bB) ∧ w.cell? ⟨g, off + i * 10 + 5, none⟩ = some (.int .u16 bT) ∧ w.cell? ⟨g, off + i * 10 + 6, none⟩ = some (.int .u16 bP) ∧ w.cell? ⟨g, off + i * 10 + 7, none⟩ = some (.int .u16 bY) ∧ w.cell? ⟨g, off + i * 10 + 8, none⟩ = some (.int .u32 bR) ∧ w.cell? ⟨g, off + i * 10 + 9, none⟩ = some (.bool bV)) := by
      rcases HA.out with h | h
      · omega
      · exact h
    obtain ⟨q, m, bC, bE, bB, bT, bP, bY, bR, bV, hm, bl, hcells⟩ := hel k h1
    obtain ⟨rC, rE, rB, rT, rP, rY, rR, rV, rl, hrv, HC⟩ := chg_less nC nE nB nT nP nY nR nV bC bE bB bT bP bY bR bV q m hnl bl hm
    have HC := hide HC
    have HN := hide hnv
    have HR := hide hrv
    have HNL := hide hnl
    have HRL := hide rl
    clear hnv hrv hnl rl bl hel hm
    obtain ⟨e0, e1, e2, e3, e4, e5, e6, e7, e8, e9⟩ := hcells
    have KK : Hid (∀ W, Below wr.heap.size wr W → W.cell? ⟨w.heap.size + 1, 0, none⟩ = some (.int .u32 nC) ∧ W.cell? ⟨w.heap.size + 1, 1, none⟩ = some (.int .u8 nE) ∧ W.cell? ⟨w.heap.size + 1, 2, none⟩ = some (.int .u16 nB) ∧ W.cell? ⟨w.heap.size + 1, 3, none⟩ = some (.int .u16 nT) ∧ W.cell? ⟨w.heap.size + 1, 4, none⟩ = some (.int .u16 nP) ∧ W.cell? ⟨w.heap.size + 1, 5, none⟩ = some (.int .u16 nY) ∧ W.cell? ⟨w.heap.size + 1, 6, none⟩ = some (.int .u32 nR) ∧ W.cell? ⟨w.heap.size + 1, 7, none⟩ = some (.bool nV) ∧ W.cell? ⟨g, off + k * 10, none⟩ = some (.int .i64 q) ∧ W.cell? ⟨g, off + k * 10 + 1, none⟩ = some (.int .u32 m) ∧ W.cell? ⟨g, off + k * 10 + 2, none⟩ = some (.int .u32 bC) ∧ W.cell? ⟨g, off + k * 10 + 3, none⟩ = some (.int .u8 bE) ∧ W.cell? ⟨g, off + k * 10 + 4, none⟩ = some (.int .u16 bB) ∧ W.cell? ⟨g, off + k * 10 + 5, none⟩ = some (.int .u16 bT) ∧ W.cell? ⟨g, off + k * 10 + 6, none⟩ = some (.int .u16 bP) ∧ W.cell? ⟨g, off + k * 10 + 7, none⟩ = some (.int .u16 bY) ∧ W.cell? ⟨g, off + k * 10 + 8, none⟩ = some (.int .u32 bR) ∧ W.cell? ⟨g, off + k * 10 + 9, none⟩ = some (.bool bV)) := fun W hW => ⟨(hqn.below hW hqn.lt).cell 0, (hqn.below hW hqn.lt).cell 1, (hqn.below hW hqn.lt).cell 2, (hqn.below hW hqn.lt).cell 3, (hqn.below hW hqn.lt).cell 4, (hqn.below hW hqn.lt).cell 5, (hqn.below hW hqn.lt).cell 6, (hqn.below hW hqn.lt).cell 7, ((kb.trans (hW.mono kb.size)).cell (p := ⟨g, _, none⟩) hg).trans e0, ((kb.trans (hW.mono kb.size)).cell (p := ⟨g, _, none⟩) hg).trans e1, ((kb.trans (hW.mono kb.size)).cell (p := ⟨g, _, none⟩) hg).trans e2, ((kb.trans (hW.mono kb.size)).cell (p := ⟨g, _, none⟩) hg).trans e3, ((kb.trans (hW.mono kb.size)).cell (p := ⟨g, _, none⟩) hg).trans e4, ((kb.trans (hW.mono kb.size)).cell (p := ⟨g, _, none⟩) hg).trans e5, ((kb.trans (hW.mono kb.size)).cell (p := ⟨g, _, none⟩) hg).trans e6, ((kb.trans (hW.mono kb.size)).cell (p := ⟨g, _, none⟩) hg).trans e7, ((kb.trans (hW.mono kb.size)).cell (p := ⟨g, _, none⟩) hg).trans e8, ((kb.trans (hW.mono kb.size)).cell (p := ⟨g, _, none⟩) hg).trans e9⟩
    clear e0 e1 e2 e3 e4 e5 e6 e7 e8 e9
    have hS := KK.out wr (Below.refl _ _)
    have hK : Below wr.heap.size wr wr := Below.refl _ _
    have HQC := hide hqc
    have HQN := hide hqn
    have HKB := hide kb
    clear hqc hqn kb
    obtain ⟨a0, a1, a2, a3, a4, a5, a6, a7, a8, a9, a10, a11, a12, a13, a14, a15, a16, a17⟩ := hS
    go_upto_region 5 with fail
    go_cut [7, 8] from 10 to 53 (fun s7 s8 wx => LsC wr wx nC nE nB nT nP nY nR nV rC rE rB rT rP rY rR rV s7 s8)
    case first =>
      go_region_held3 (fun w' => w'.cell? ⟨w.heap.size + 1, 0, none⟩ = some (.int .u32 nC) ∧ w'.cell? ⟨w.heap.size + 1, 1, none⟩ = some (.int .u8 nE) ∧ w'.cell? ⟨w.heap.size + 1, 2, none⟩ = some (.int .u16 nB) ∧ w'.cell? ⟨w.heap.size + 1, 3, none⟩ = some (.int .u16 nT) ∧ w'.cell? ⟨w.heap.size + 1, 4, none⟩ = some (.int .u16 nP) ∧ w'.cell? ⟨w.heap.size + 1, 5, none⟩ = some (.int .u16 nY) ∧ w'.cell? ⟨w.heap.size + 1, 6, none⟩ = some (.int .u32 nR) ∧ w'.cell? ⟨w.heap.size + 1, 7, none⟩ = some (.bool nV) ∧ w'.cell? ⟨g, off + k * 10, none⟩ = some (.int .i64 q) ∧ w'.cell? ⟨g, off + k * 10 + 1, none⟩ = some (.int .u32 m) ∧ w'.cell? ⟨g, off + k * 10 + 2, none⟩ = some (.int .u32 bC) ∧ w'.cell? ⟨g, off + k * 10 + 3, none⟩ = some (.int .u8 bE) ∧ w'.cell? ⟨g, off + k * 10 + 4, none⟩ = some (.int .u16 bB) ∧ w'.cell? ⟨g, off + k * 10 + 5, none⟩ = some (.int .u16 bT) ∧ w'.cell? ⟨g, off + k * 10 + 6, none⟩ = some (.int .u16 bP) ∧ w'.cell? ⟨g, off + k * 10 + 7, none⟩ = some (.int .u16 bY) ∧ w'.cell? ⟨g, off + k * 10 + 8, none⟩ = some (.int .u32 bR) ∧ w'.cell? ⟨g, off + k * 10 + 9, none⟩ = some (.bool bV)) ((refine KK.out _ ?_; repeat (first | (with_reducible exact hK) | (with_reducible refine Below.drew ?_) | (with_reducible refine below_drewN ?_ _) | (with_reducible refine Below.alloc ?_ (by first | (simp; done) | exact hK.size | (have := hK.size; simp at this ⊢; omega)) _) | (with_reducible refine Below.setCell ?_ (by first | (simp; done) | exact hK.size | (have := hK.size; simp at this ⊢; omega)) _))))
        (first
          | (go_at_call 33; refine (HC.out _).mono ?_; rintro e' w9 ⟨rfl, hb⟩; obtain ⟨hc9, hf9⟩ := bcell hb; have hz9 := hb.size; (try simp at hz9); (try have l9 := Nat.lt_of_succ_le hz9); have hK' : Below wr.heap.size wr w9 := (by refine Below.trans ?_ (hb.mono ?_); (first | (with_reducible exact hK) | (with_reducible exact hK.drew) | (with_reducible exact below_drewN hK _) | (with_reducible exact Below.alloc hK hK.size _) | (with_reducible exact Below.alloc hK.drew hK.size _) | (with_reducible exact (Below.alloc hK hK.size _).drew) | (with_reducible exact (Below.alloc (below_drewN hK _) hK.size _)) | (repeat (first | (with_reducible exact hK) | (with_reducible refine Below.drew ?_) | (with_reducible refine below_drewN ?_ _) | (with_reducible refine Below.alloc ?_ (by first | (simp; done) | exact hK.size | (have := hK.size; simp at this ⊢; omega)) _)))); (first | (with_reducible exact hK.size) | (simp; done) | (have := hK.size; simp at this ⊢; omega) | (have := hK.size; simp at this ⊢; done) | exact hK.size)); have HB9 := hide hb; clear hb hK; have hK := hK'; clear hK'))
      all_goals
        go_wp2_with fail
        go_meet
        refine ⟨_, _, rfl, rfl, ?_, ?_, ?_⟩
        · (repeat (first | (with_reducible exact Blk.new _ _ _) | ((with_reducible refine Blk.newAt ?_ _ _); (simp; done)) | (with_reducible refine Blk.drew ?_) | (with_reducible refine Blk.drewN ?_ _) | (with_reducible refine Blk.fill (x0 := .int .u32 0) (x1 := .int .u8 0) (x2 := .int .u16 0) (x3 := .int .u16 0) (x4 := .int .u16 0) (x5 := .int .u16 0) (x6 := .int .u32 0) (x7 := .bool false) ?_ _ _ _ _ _ _ _ _) | (with_reducible refine Blk.far ?_ (by first | (simp; done) | (simp; omega) | omega) _) | (with_reducible refine Blk.alloc ?_ _) | (refine Blk.below ?_ HB9.out (by first | (simp; done) | (simp; omega) | omega))))
        · (repeat (first | (with_reducible exact Blk.new _ _ _) | ((with_reducible refine Blk.newAt ?_ _ _); (simp; done)) | (with_reducible refine Blk.drew ?_) | (with_reducible refine Blk.drewN ?_ _) | (with_reducible refine Blk.fill (x0 := .int .u32 0) (x1 := .int .u8 0) (x2 := .int .u16 0) (x3 := .int .u16 0) (x4 := .int .u16 0) (x5 := .int .u16 0) (x6 := .int .u32 0) (x7 := .bool false) ?_ _ _ _ _ _ _ _ _) | (with_reducible refine Blk.far ?_ (by first | (simp; done) | (simp; omega) | omega) _) | (with_reducible refine Blk.alloc ?_ _) | (refine Blk.below ?_ HB9.out (by first | (simp; done) | (simp; omega) | omega))))
        · repeat (first | (with_reducible exact hK) | (with_reducible refine Below.drew ?_) | (with_reducible refine below_drewN ?_ _) | (with_reducible refine Below.alloc ?_ (by first | (simp; done) | exact hK.size | (have := hK.size; simp at this ⊢; omega)) _) | (with_reducible refine Below.setCell ?_ (by first | (simp; done) | exact hK.size | (have := hK.size; simp at this ⊢; omega)) _))
    case rest =>
      obtain ⟨b7, b8, rfl, rfl, q7, q8, kx⟩ := hcut
      clear hK KK HC a0 a1 a2 a3 a4 a5 a6 a7 a8 a9 a10 a11 a12 a13 a14 a15 a16 a17
      have qc := HQC.out.below kx HQC.out.lt
      have qn := HQN.out.below kx HQN.out.lt
      have kw := HKB.out.trans (kx.mono HKB.out.size)
      clear kx HQC HQN HKB HA
      have p0 := q7.cell 0
      have p1 := q7.cell 1
      have p2 := q7.cell 2
      have p3 := q7.cell 3
      have p4 := q7.cell 4
      have p5 := q7.cell 5
      have p6 := q7.cell 6
      have p7 := q7.cell 7
      simp at p0 p1 p2 p3 p4 p5 p6 p7
      have s0 := qn.cell 0
      have s1 := qn.cell 1
      have s2 := qn.cell 2
      have s3 := qn.cell 3
      have s4 := qn.cell 4
      have s5 := qn.cell 5
      have s6 := qn.cell 6
      have s7 := qn.cell 7
      simp at s0 s1 s2 s3 s4 s5 s6 s7
      have f0 := qn.frozen 0
      have f1 := qn.frozen 1
      have f2 := qn.frozen 2
      have f3 := qn.frozen 3
      have f4 := qn.frozen 4
      have f5 := qn.frozen 5
      have f6 := qn.frozen 6
      have f7 := qn.frozen 7
      cases rV with
      | false =>
        have HV : Hid (false = true → cV = true ∧ withinN rP cP (decN rE rB rT rC).1 (decN rE rB rT rC).2 (decN cE cB cT cC).1 (decN cE cB cT cC).2 = true) := hide (fun h => by cases h)
        have HQC2 := hide qc
        have HQN2 := hide qn
        have HKW := hide kw
        clear qc qn kw q7 q8 hg
        go_wp2_with fail
        go_roundg (40 - (k + 1))
        case measure => omega
        case rel =>
          refine ⟨k + 1, by omega, by omega, rfl, by simp, ?_, ⟨_, _, _, _, _, _, _, _, ?_, HRL.out, HV.out⟩, ?_⟩
          · repeat (first | (with_reducible exact HQC2.out) | (with_reducible refine Blk.drew ?_) | (with_reducible refine Blk.far ?_ (by simp) _))
          · exact Blk.fill HQN2.out _ _ _ _ _ _ _ _
          · repeat (first | (with_reducible exact HKW.out) | (with_reducible refine Below.drew ?_) | (with_reducible refine Below.setCell ?_ (by simp) _))
      | true =>
        obtain ⟨hnV, hw1⟩ := HR.out rfl
        subst hnV
        obtain ⟨hcV, hw2⟩ := HN.out rfl
        subst hcV
        have hw3 := within_trans hw1 hw2
        have HV : Hid (true = true → true = true ∧ withinN rP cP (decN rE rB rT rC).1 (decN rE rB rT rC).2 (decN cE cB cT cC).1 (decN cE cB cT cC).2 = true) := hide (fun _ => ⟨rfl, hw3⟩)
        have HW1 := hide (fun W => within_yes rC rE rB rT rP rY rR true nC nE nB nT nP nY nR true W HRL.out HNL.out hw1)
        have HW2 := hide (fun W => within_yes rC rE rB rT rP rY rR true cC cE cB cT cP cY cR true W HRL.out CL.out hw3)
        clear hw1 hw2 hw3 HR HN
        have t0 := q8.cell 0
        have t1 := q8.cell 1
        have t2 := q8.cell 2
        have t3 := q8.cell 3
        have t4 := q8.cell 4
        have t5 := q8.cell 5
        have t6 := q8.cell 6
        have t7 := q8.cell 7
        simp at t0 t1 t2 t3 t4 t5 t6 t7
        have v0 := qc.cell 0
        have v1 := qc.cell 1
        have v2 := qc.cell 2
        have v3 := qc.cell 3
        have v4 := qc.cell 4
        have v5 := qc.cell 5
        have v6 := qc.cell 6
        have v7 := qc.cell 7
        simp at v0 v1 v2 v3 v4 v5 v6 v7
        have q8' := hide q8
        have q7' := hide q7
        have qc' := hide qc
        have qn' := hide qn
        have kw' := hide kw
        clear qc qn kw q7 q8 hg
        go_wp2_with fail
        refine (HW1.out _).mono ?_
        rintro e wx ⟨rfl, hb⟩
        clear p0 p1 p2 p3 p4 p5 p6 p7 s0 s1 s2 s3 s4 s5 s6 s7 f0 f1 f2 f3 f4 f5 f6 f7 t0 t1 t2 t3 t4 t5 t6 t7 v0 v1 v2 v3 v4 v5 v6 v7
        have q7 := q7'.out.below hb q7'.out.lt
        have q8 := q8'.out.below hb q8'.out.lt
        have qc := qc'.out.below hb qc'.out.lt
        have qn := qn'.out.below hb qn'.out.lt
        have kw := kw'.out.trans (hb.mono kw'.out.size)
        clear hb q7' q8' qc' qn' kw'
        have p0 := q7.cell 0
        have p1 := q7.cell 1
        have p2 := q7.cell 2
        have p3 := q7.cell 3
        have p4 := q7.cell 4
        have p5 := q7.cell 5
        have p6 := q7.cell 6
        have p7 := q7.cell 7
        simp at p0 p1 p2 p3 p4 p5 p6 p7
        have s0 := qn.cell 0
        have s1 := qn.cell 1
        have s2 := qn.cell 2
        have s3 := qn.cell 3
        have s4 := qn.cell 4
        have s5 := qn.cell 5
        have s6 := qn.cell 6
        have s7 := qn.cell 7
        simp at s0 s1 s2 s3 s4 s5 s6 s7
        have f0 := qn.frozen 0
        have f1 := qn.frozen 1
        have f2 := qn.frozen 2
        have f3 := qn.frozen 3
        have f4 := qn.frozen 4
        have f5 := qn.frozen 5
        have f6 := qn.frozen 6
        have f7 := qn.frozen 7
        have t0 := q8.cell 0
        have t1 := q8.cell 1
        have t2 := q8.cell 2
        have t3 := q8.cell 3
        have t4 := q8.cell 4
        have t5 := q8.cell 5
        have t6 := q8.cell 6
        have t7 := q8.cell 7
        simp at t0 t1 t2 t3 t4 t5 t6 t7
        have v0 := qc.cell 0
        have v1 := qc.cell 1
        have v2 := qc.cell 2
        have v3 := qc.cell 3
        have v4 := qc.cell 4
        have v5 := qc.cell 5
        have v6 := qc.cell 6
        have v7 := qc.cell 7
        simp at v0 v1 v2 v3 v4 v5 v6 v7
        have q8' := hide q8
        have q7' := hide q7
        have qc' := hide qc
        have qn' := hide qn
        have kw' := hide kw
        clear qc qn kw q7 q8
        go_wp2_with fail
        refine (HW2.out _).mono ?_
        rintro e wy ⟨rfl, hb⟩
        clear p0 p1 p2 p3 p4 p5 p6 p7 s0 s1 s2 s3 s4 s5 s6 s7 f0 f1 f2 f3 f4 f5 f6 f7 t0 t1 t2 t3 t4 t5 t6 t7 v0 v1 v2 v3 v4 v5 v6 v7
        have q7 := q7'.out.below hb q7'.out.lt
        have q8 := q8'.out.below hb q8'.out.lt
        have qc := qc'.out.below hb qc'.out.lt
        have qn := qn'.out.below hb qn'.out.lt
        have kw := kw'.out.trans (hb.mono kw'.out.size)
        clear hb q7' q8' qc' qn' kw'
        have p0 := q7.cell 0
        have p1 := q7.cell 1
        have p2 := q7.cell 2
        have p3 := q7.cell 3
        have p4 := q7.cell 4
        have p5 := q7.cell 5
        have p6 := q7.cell 6
        have p7 := q7.cell 7
        simp at p0 p1 p2 p3 p4 p5 p6 p7
        have s0 := qn.cell 0
        have s1 := qn.cell 1
        have s2 := qn.cell 2
        have s3 := qn.cell 3
        have s4 := qn.cell 4
        have s5 := qn.cell 5
        have s6 := qn.cell 6
        have s7 := qn.cell 7
        simp at s0 s1 s2 s3 s4 s5 s6 s7
        have f0 := qn.frozen 0
        have f1 := qn.frozen 1
        have f2 := qn.frozen 2
        have f3 := qn.frozen 3
        have f4 := qn.frozen 4
        have f5 := qn.frozen 5
        have f6 := qn.frozen 6
        have f7 := qn.frozen 7
        have t0 := q8.cell 0
        have t1 := q8.cell 1
        have t2 := q8.cell 2
        have t3 := q8.cell 3
        have t4 := q8.cell 4
        have t5 := q8.cell 5
        have t6 := q8.cell 6
        have t7 := q8.cell 7
        simp at t0 t1 t2 t3 t4 t5 t6 t7
        have v0 := qc.cell 0
        have v1 := qc.cell 1
        have v2 := qc.cell 2
        have v3 := qc.cell 3
        have v4 := qc.cell 4
        have v5 := qc.cell 5
        have v6 := qc.cell 6
        have v7 := qc.cell 7
        simp at v0 v1 v2 v3 v4 v5 v6 v7
        have q8' := hide q8
        have q7' := hide q7
        have qc' := hide qc
        have qn' := hide qn
        have kw' := hide kw
        clear qc qn kw q7 q8
        go_wp2_with fail
        go_roundg (40 - (k + 1))
        case measure => omega
        case rel =>
          refine ⟨k + 1, by omega, by omega, rfl, by simp, ?_, ⟨rC, rE, rB, rT, rP, rY, rR, true, ?_, HRL.out, fun _ => ⟨rfl, (HV.out trivial).2⟩⟩, ?_⟩
          · repeat (first | (with_reducible exact qc'.out) | (with_reducible refine Blk.drew ?_) | (with_reducible refine Blk.far ?_ (by simp) _))
          · exact Blk.fill qn'.out _ _ _ _ _ _ _ _
          · repeat (first | (with_reducible exact kw'.out) | (with_reducible refine Below.drew ?_) | (with_reducible refine Below.setCell ?_ (by simp) _))
end Go.Proofs.Ytljchnfofjmleaa
