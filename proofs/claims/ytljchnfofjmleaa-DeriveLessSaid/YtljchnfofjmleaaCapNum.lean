/-
  Plain words of layer 4 (capabilities): no walk.
-/
import Derived.Test.YtljchnfofjmleaaBase
import Derived.Test.YtljchnfofjmleaaBndC
import Derived.Test.YtljchnfofjmleaaBndB
import Derived.Laws.StructEq
namespace Go.Proofs.Ytljchnfofjmleaa
open Go.RowKit

theorem Blk.new2 (w : World) (o : Obj) (t : TypeId) (cs : Array Value) : Blk ((w.alloc o).alloc (.cells cs t)) (w.heap.size + 1) t cs := by
  have := Blk.new (w.alloc o) t cs
  rwa [show (w.alloc o).heap.size = w.heap.size + 1 by simp] at this
theorem Blk.new1 (w : World) (o : Obj) (t : TypeId) (cs : Array Value) : Blk ((w.alloc (.cells cs t)).alloc o) w.heap.size t cs := (Blk.new w t cs).alloc o
/-- Does a region lie within bounds; does it meet them? -/
def holdsN (b t a s : Nat) : Bool := decide (b ≤ a) && decide (a + s ≤ t)
def meetsN (b t a s : Nat) : Bool := decide (max b a < min t (a + s))
/-- Are permissions among others? -/
def subP (p q : Nat) : Bool := decide (p &&& q = p)
def inN (b t l h : Nat) : Bool := decide (t ≤ b) || (decide (l ≤ b) && decide (t ≤ h))
theorem and_or_not {p q : Nat} (hp : p < 65536) (hq : q < 65536) : (p &&& (65535 - q) = 0) ↔ p &&& q = p := by
  have h1 : 65535 - q = q ^^^ 65535 := by
    refine Nat.eq_of_testBit_eq fun i => ?_
    rw [Nat.testBit_xor, show 65535 - q = 2 ^ 16 - (q + 1) by omega, Nat.testBit_two_pow_sub_succ (by omega), show 65535 = 2 ^ 16 - 1 by rfl, Nat.testBit_two_pow_sub_one]
    by_cases hi : i < 16
    · simp [hi]
    · have : q.testBit i = false := Nat.testBit_lt_two_pow (Nat.lt_of_lt_of_le hq (Nat.pow_le_pow_right (n := 2) (i := 16) (by omega) (by omega)))
      simp [hi, this]
  have hb : ∀ i, 16 ≤ i → p.testBit i = false := fun i hi => Nat.testBit_lt_two_pow (Nat.lt_of_lt_of_le hp (Nat.pow_le_pow_right (n := 2) (i := 16) (by omega) hi))
  constructor
  · intro h
    refine Nat.eq_of_testBit_eq fun i => ?_
    have hi := congrArg (fun n => n.testBit i) h
    simp only [h1, Nat.testBit_and, Nat.testBit_xor, show 65535 = 2 ^ 16 - 1 by rfl, Nat.testBit_two_pow_sub_one, Nat.zero_testBit] at hi
    rw [Nat.testBit_and]
    by_cases h16 : i < 16
    · simp only [h16, decide_true] at hi
      cases hpb : p.testBit i <;> cases hqb : q.testBit i <;> simp_all
    · rw [hb i (by omega)]; rfl
  · intro h
    refine Nat.eq_of_testBit_eq fun i => ?_
    have hi := congrArg (fun n => n.testBit i) h
    simp only [Nat.testBit_and] at hi
    simp only [h1, Nat.testBit_and, Nat.testBit_xor, show 65535 = 2 ^ 16 - 1 by rfl, Nat.testBit_two_pow_sub_one, Nat.zero_testBit]
    by_cases h16 : i < 16
    · cases hpb : p.testBit i <;> cases hqb : q.testBit i <;> simp_all
    · rw [hb i (by omega)]; rfl
theorem sub_not {p q : Nat} (hp : p < 65536) (hq : q < 65536) : (bits .andNot .u16 (p : Int) (q : Int) == 0) = subP p q := by
  rw [u16_andNot_nat p q hp hq, Bool.eq_iff_iff]
  unfold subP
  rw [decide_eq_true_eq, ← and_or_not hp hq]
  simp <;> omega
theorem sub_and {p q : Nat} (hp : p < 65536) (hq : q < 65536) : (bits .and .u16 (p : Int) (q : Int) == (p : Int)) = subP p q := by
  rw [u16_and_nat p q hp hq, Bool.eq_iff_iff]
  unfold subP
  rw [decide_eq_true_eq]
  simp <;> omega
/-- Two capabilities, field by field. -/
def capEq (aC aE aB aT aP aY aR : Nat) (aV : Bool) (bC bE bB bT bP bY bR : Nat) (bV : Bool) : Bool := decide (aC = bC) && (decide (aE = bE) && (decide (aB = bB) && (decide (aT = bT) && (decide (aP = bP) && (decide (aY = bY) && (decide (aR = bR) && (aV == bV)))))))
theorem capEq_self (aC aE aB aT aP aY aR : Nat) (aV : Bool) : capEq aC aE aB aT aP aY aR aV aC aE aB aT aP aY aR aV = true := by simp [capEq]
theorem beq_nat (a b : Nat) : ((a : Int) == (b : Int)) = decide (a = b) := by
  rw [Bool.eq_iff_iff]; simp; omega
/-- A capability's fields are what their types hold. -/
def capB (aC aE aB aT aP aY aR : Nat) : Prop := aC < 4294967296 ∧ aE < 256 ∧ aB < 65536 ∧ aT < 65536 ∧ aP < 65536 ∧ aY < 65536 ∧ aR < 4294967296
theorem dec_lt (e b t c : Nat) : (decN e b t c).1 < 4294967296 ∧ (decN e b t c).2 ≤ 4294967296 ∧ (decN e b t c).1 ≤ (decN e b t c).2 := by
  unfold decN
  split
  · rename_i h
    have h1 := tellOk_true h.1
    have h2 := h.2
    simp only
    omega
  · simp
theorem capU : Try.prog.underlying 25 = some (.struct (Try.prog.fieldsOf 25)) := by kernel_rfl
theorem capS : Try.prog.stoodInHeld 25 = false := by kernel_rfl
theorem capG : Try.prog.eqGuardType Try.prog.depth 25 = false := by kernel_rfl
end Go.Proofs.Ytljchnfofjmleaa
