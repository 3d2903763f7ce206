/-
  Walks of layer 5: free, not, Clear, And, Addr.
-/
import Derived.Test.YtljchnfofjmleaaDerMade
import Derived.Laws.EntriesVeiled
import Derived.WalkLawsBesides
namespace Go.Proofs.Ytljchnfofjmleaa
open Go.RowKit
attribute [local go_sem ↓] Go.wp_at_zero Go.wp_at_succ

/-- Is a capability open to change? -/
def freeN (cY : Nat) (cV : Bool) : Bool := cV && decide (cY = 0)
theorem free_any (cC cE cB cT cP cY cR : Nat) (cV : Bool) (w : World) :
    Calls Try.prog 42 #[.agg #[.int .u32 cC, .int .u8 cE, .int .u16 cB, .int .u16 cT, .int .u16 cP, .int .u16 cY, .int .u32 cR, .bool cV]] w fun e w' => e = .returned (.bool (freeN cY cV)) ∧ Below w.heap.size w w' := by
  have hf : freeN cY cV = (cV && ((cY : Int) == 0)) := by
    unfold freeN
    rw [show decide (cY = 0) = ((cY : Int) == 0) by rw [Bool.eq_iff_iff]; simp]
  rw [hf]
  clear hf
  cases cV with
  | false =>
    rw [Bool.false_and]
    go_enter Try.func42, Try.ntmps42
    go_wp2
    go_ret
    exact ⟨rfl, by (repeat (first | (with_reducible exact Below.refl _ _) | (with_reducible refine Below.drew ?_) | (with_reducible refine below_drewN ?_ _) | (with_reducible refine Below.alloc ?_ (by simp <;> omega) _) | (with_reducible refine Below.setCell ?_ (by simp <;> omega) _)))⟩
  | true =>
    rw [Bool.true_and]
    go_enter Try.func42, Try.ntmps42
    go_wp2
    go_ret
    exact ⟨rfl, by (repeat (first | (with_reducible exact Below.refl _ _) | (with_reducible refine Below.drew ?_) | (with_reducible refine below_drewN ?_ _) | (with_reducible refine Below.alloc ?_ (by simp <;> omega) _) | (with_reducible refine Below.setCell ?_ (by simp <;> omega) _)))⟩
theorem not_any (w : World) : Calls Try.prog 45 #[] w fun e w' => e = .returned (.bool false) ∧ Below w.heap.size w w' := by
  go_enter Try.func45, Try.ntmps45
  go_wp2
  go_ret
  exact ⟨rfl, Below.refl _ _⟩
theorem asked_not (w : World) (g : Nat) (h : Blk w g 27 #[.func (.func 45) #[] #[]]) : Asked w g 1 (fun _ => 45) (fun _ => #[]) (fun _ => #[]) (fun _ => false) :=
  ⟨fun j hj => by obtain rfl : j = 0 := by omega
                  exact h.cell 0,
   fun _ _ W _ => not_any W, fun _ _ W => by kernel_rfl, h.lt⟩
theorem asked_free (cC cE cB cT cP cY cR : Nat) (cV : Bool) (w : World) (g : Nat) (h : Blk w g 27 #[.func (.func 42) #[.agg #[.int .u32 cC, .int .u8 cE, .int .u16 cB, .int .u16 cT, .int .u16 cP, .int .u16 cY, .int .u32 cR, .bool cV]] #[]]) : Asked w g 1 (fun _ => 42) (fun _ => #[.agg #[.int .u32 cC, .int .u8 cE, .int .u16 cB, .int .u16 cT, .int .u16 cP, .int .u16 cY, .int .u32 cR, .bool cV]]) (fun _ => #[]) (fun _ => freeN cY cV) :=
  ⟨fun j hj => by obtain rfl : j = 0 := by omega
                  exact h.cell 0,
   fun _ _ W _ => free_any cC cE cB cT cP cY cR cV W, fun _ _ W => by kernel_rfl, h.lt⟩

theorem Blk.newAt {W : World} {g : Nat} (h : W.heap.size = g) (t : TypeId) (cs : Array Value) : Blk (W.alloc (.cells cs t)) g t cs := by subst h; exact Blk.new W t cs
theorem made_not (cC cE cB cT cP cY cR : Nat) (cV : Bool) (w : World) (g : Nat) (h : Blk w g 27 #[.func (.func 45) #[] #[]]) :
    Calls Try.prog 41 #[.agg #[.int .u32 cC, .int .u8 cE, .int .u16 cB, .int .u16 cT, .int .u16 cP, .int .u16 cY, .int .u32 cR, .bool cV], .slice (some ⟨g, 0, none⟩) 1 1] w fun e w' => e = .returned (.agg #[.int .u32 cC, .int .u8 cE, .int .u16 cB, .int .u16 cT, .int .u16 cP, .int .u16 cY, .int .u32 cR, .bool false]) ∧ Below w.heap.size w w' :=
  made_any cC cE cB cT cP cY cR cV g 1 _ _ _ _ w (by omega) (asked_not w g h)
theorem made_free (p : Nat) (cC cE cB cT cY cR : Nat) (cV : Bool) (dC dE dB dT dP dY dR : Nat) (dV : Bool) (w : World) (g : Nat) (h : Blk w g 27 #[.func (.func 42) #[.agg #[.int .u32 dC, .int .u8 dE, .int .u16 dB, .int .u16 dT, .int .u16 dP, .int .u16 dY, .int .u32 dR, .bool dV]] #[]]) :
    Calls Try.prog 41 #[.agg #[.int .u32 cC, .int .u8 cE, .int .u16 cB, .int .u16 cT, .int .u16 p, .int .u16 cY, .int .u32 cR, .bool cV], .slice (some ⟨g, 0, none⟩) 1 1] w fun e w' => e = .returned (.agg #[.int .u32 cC, .int .u8 cE, .int .u16 cB, .int .u16 cT, .int .u16 p, .int .u16 cY, .int .u32 cR, .bool (freeN dY dV)]) ∧ Below w.heap.size w w' := by
  have := made_any cC cE cB cT p cY cR cV g 1 _ _ _ _ w (by omega) (asked_free dC dE dB dT dP dY dR dV w g h)
  rwa [show accB (fun _ => freeN dY dV) 1 = freeN dY dV from Bool.true_and _] at this
theorem clear_any (cC cE cB cT cP cY cR : Nat) (cV : Bool) (w : World) :
    Calls Try.prog 22 #[.agg #[.int .u32 cC, .int .u8 cE, .int .u16 cB, .int .u16 cT, .int .u16 cP, .int .u16 cY, .int .u32 cR, .bool cV]] w fun e w' => e = .returned (.agg #[.int .u32 cC, .int .u8 cE, .int .u16 cB, .int .u16 cT, .int .u16 cP, .int .u16 cY, .int .u32 cR, .bool false]) ∧ Below w.heap.size w w' := by
  go_enter Try.func22, Try.ntmps22
  go_wp2_with fail
  refine (made_not cC cE cB cT cP cY cR cV _ _ (Blk.newAt (by simp) _ _)).mono ?_
  rintro e w2 ⟨rfl, hb2⟩
  obtain ⟨hc2, hf2⟩ := bcell hb2
  have hz2 := hb2.size
  simp at hz2
  have HB2 := hide hb2; clear hb2
  go_wp2
  refine bodyPost_ret (v := .agg #[.int .u32 cC, .int .u8 cE, .int .u16 cB, .int .u16 cT, .int .u16 cP, .int .u16 cY, .int .u32 cR, .bool false]) (by simp [results, Try.results22, go_sem, hc2]) rfl ⟨rfl, ?_⟩
  repeat (refine Below.setCell ?_ (by simp <;> omega) _)
  exact ((((Below.refl _ _).alloc (Nat.le_refl _) _).alloc (by simp) _).alloc (by simp; omega) _).trans (HB2.out.mono (by simp; omega))

theorem and_any (cC cE cB cT cP cY cR : Nat) (cV : Bool) (p : Nat) (w : World) (cl : capB cC cE cB cT cP cY cR) (_hp : p < 4294967296) :
    Calls Try.prog 20 #[.agg #[.int .u32 cC, .int .u8 cE, .int .u16 cB, .int .u16 cT, .int .u16 cP, .int .u16 cY, .int .u32 cR, .bool cV], .int .u32 p] w fun e w' => e = .returned (.agg #[.int .u32 cC, .int .u8 cE, .int .u16 cB, .int .u16 cT, .int .u16 (cP &&& (p % 65536) : Nat), .int .u16 cY, .int .u32 cR, .bool (freeN cY cV)]) ∧ Below w.heap.size w w' := by
  have hx := u16_and_nat cP (p % 65536) cl.2.2.2.2.1 (by omega)
  obtain ⟨x, hxe⟩ : ∃ x, p % 65536 = x := ⟨_, rfl⟩
  have hx2 : IntKind.u16.wrap (p : Int) = x := by rw [IntKind.wrap_u16]; omega
  rw [hxe] at hx ⊢
  obtain ⟨y, hy⟩ : ∃ y, cP &&& x = y := ⟨_, rfl⟩
  rw [hy] at hx ⊢
  clear hxe hy
  go_enter Try.func20, Try.ntmps20
  go_wp2_with fail
  refine (made_free y cC cE cB cT cY cR cV cC cE cB cT cP cY cR cV _ _ (Blk.newAt (by simp) _ _)).mono ?_
  rintro e w2 ⟨rfl, hb2⟩
  obtain ⟨hc2, hf2⟩ := bcell hb2
  have hz2 := hb2.size
  simp at hz2
  have HB2 := hide hb2; clear hb2
  go_wp2
  refine bodyPost_ret (v := .agg #[.int .u32 cC, .int .u8 cE, .int .u16 cB, .int .u16 cT, .int .u16 y, .int .u16 cY, .int .u32 cR, .bool (freeN cY cV)]) (by simp [results, Try.results20, go_sem, hc2]) rfl ⟨rfl, ?_⟩
  repeat (refine Below.setCell ?_ (by simp <;> omega) _)
  exact (((((Below.refl _ _).alloc (Nat.le_refl _) _).alloc (by simp) _).alloc (by simp; omega) _).alloc (by simp; omega) _).trans (HB2.out.mono (by simp; omega))

end Go.Proofs.Ytljchnfofjmleaa
