/-
  Numbers of bytes, as the machine's paths say them.
-/
import Derived.Test.YtnnagaioiodniaaEngSay
import Derived.IntWalk
namespace Go.Proofs.Ytnnagaioiodniaa
open Go.RowKit

theorem w32n (n : Nat) (h : n < 4294967296) : IntKind.u32.wrap (n : Int) = n := IntWalk.u32_in _ (by omega)
theorem w16n (n : Nat) (h : n < 65536) : IntKind.u16.wrap (n : Int) = n := IntWalk.u16_in _ (by omega)
theorem w8n (n : Nat) (h : n < 256) : IntKind.u8.wrap (n : Int) = n := IntWalk.u8_in _ (by omega)
theorem sh32 (n k : Nat) (h1 : n < 4294967296) (h2 : n * 2 ^ k < 4294967296) : IntKind.u32.wrap (IntKind.u32.wrap (n : Int) * 2 ^ k) = ((n * 2 ^ k : Nat) : Int) := by
  rw [w32n n h1, show (n : Int) * 2 ^ k = ((n * 2 ^ k : Nat) : Int) by simp, w32n _ h2]
theorem or32 (x y : Nat) (hx : x < 4294967296) (hy : y < 4294967296) : (BitVec.ofInt 32 (x : Int) ||| BitVec.ofInt 32 (y : Int)).toNat = x ||| y := by
  rw [BitVec.toNat_or, BitVec.ofInt_natCast, BitVec.ofInt_natCast, BitVec.toNat_ofNat, BitVec.toNat_ofNat, Nat.mod_eq_of_lt (by omega), Nat.mod_eq_of_lt (by omega)]
theorem or_hi (x y k : Nat) (hx : x % 2 ^ k = 0) (hy : y < 2 ^ k) : x ||| y = x + y := by
  have h := Nat.two_pow_add_eq_or_of_lt hy (x / 2 ^ k)
  have h1 : 2 ^ k * (x / 2 ^ k) = x := Nat.mul_div_cancel' (Nat.dvd_of_mod_eq_zero hx)
  rw [h1] at h
  exact h.symm
theorem orw (x y k : Nat) (hx : x % 2 ^ k = 0) (hy : y < 2 ^ k) (h : x + y < 4294967296) : IntKind.u32.wrap ((BitVec.ofInt 32 (x : Int) ||| BitVec.ofInt 32 (y : Int)).toNat : Int) = ((x + y : Nat) : Int) := by
  rw [or32 x y (by omega) (by omega), or_hi x y k hx hy, w32n _ h]
theorem orv (x y k : Nat) (hx : x < 2 ^ k) (hy : y % 2 ^ k = 0) (h : x + y < 4294967296) : IntKind.u32.wrap ((BitVec.ofInt 32 (x : Int) ||| BitVec.ofInt 32 (y : Int)).toNat : Int) = ((x + y : Nat) : Int) := by
  rw [or32 x y (by omega) (by omega), Nat.or_comm, or_hi y x k hy hx, Nat.add_comm y x, w32n _ h]
theorem or0 (y : Nat) (h : y < 4294967296) : IntKind.u32.wrap ((BitVec.ofInt 32 0 ||| BitVec.ofInt 32 (y : Int)).toNat : Int) = (y : Int) := by
  have := orw 0 y 32 (by simp) (by omega) (by omega)
  simpa using this

def num1 (a : UInt8) : Int := (a.toNat : Nat)
def num2 (a b : UInt8) : Int := (a.toNat + b.toNat * 256 : Nat)
def num3 (a b c : UInt8) : Int := (a.toNat + b.toNat * 256 + c.toNat * 65536 : Nat)
def num4 (a b c d : UInt8) : Int := (a.toNat + b.toNat * 256 + c.toNat * 65536 + d.toNat * 16777216 : Nat)
theorem num1_in (a : UInt8) : 0 ≤ num1 a ∧ num1 a < 256 := by
  have := a.toNat_lt
  unfold num1
  omega
theorem num2_in (a b : UInt8) : 0 ≤ num2 a b ∧ num2 a b < 65536 := by
  have := a.toNat_lt
  have := b.toNat_lt
  unfold num2
  omega
theorem num3_in (a b c : UInt8) : 0 ≤ num3 a b c ∧ num3 a b c < 16777216 := by
  have := a.toNat_lt
  have := b.toNat_lt
  have := c.toNat_lt
  unfold num3
  omega
theorem num4_in (a b c d : UInt8) : 0 ≤ num4 a b c d ∧ num4 a b c d < 4294967296 := by
  have := a.toNat_lt
  have := b.toNat_lt
  have := c.toNat_lt
  have := d.toNat_lt
  unfold num4
  omega

/-! As the program reads them. -/
theorem getP1 (a : UInt8) : IntKind.u8.wrap (IntKind.u32.wrap ↑(BitVec.ofInt 32 0 ||| BitVec.ofInt 32 (IntKind.u32.wrap ↑a.toNat)).toNat) = num1 a := by
  have ha := a.toNat_lt
  rw [w32n a.toNat (by omega), or0 _ (by omega), w8n _ (by omega)]
  rfl
theorem getP2' (a b : UInt8) : IntKind.u32.wrap ↑(BitVec.ofInt 32 (IntKind.u32.wrap ↑(BitVec.ofInt 32 0 ||| BitVec.ofInt 32 (IntKind.u32.wrap (IntKind.u32.wrap ↑b.toNat * 2 ^ 8))).toNat) ||| BitVec.ofInt 32 (IntKind.u32.wrap ↑a.toNat)).toNat = num2 a b := by
  have ha := a.toNat_lt
  have hb := b.toNat_lt
  rw [w32n a.toNat (by omega), sh32 _ 8 (by omega) (by omega), or0 _ (by omega), orw _ _ 8 (by omega) (by omega) (by omega)]
  unfold num2
  congr 1
  omega
theorem getP2 (a b : UInt8) : IntKind.u16.wrap (IntKind.u32.wrap ↑(BitVec.ofInt 32 (IntKind.u32.wrap ↑(BitVec.ofInt 32 0 ||| BitVec.ofInt 32 (IntKind.u32.wrap (IntKind.u32.wrap ↑b.toNat * 2 ^ 8))).toNat) ||| BitVec.ofInt 32 (IntKind.u32.wrap ↑a.toNat)).toNat) = num2 a b := by
  have ha := a.toNat_lt
  have hb := b.toNat_lt
  rw [getP2']
  unfold num2
  rw [w16n _ (by omega)]
theorem getP4 (a b c d : UInt8) : IntKind.u32.wrap ↑(BitVec.ofInt 32 (IntKind.u32.wrap ↑(BitVec.ofInt 32 (IntKind.u32.wrap ↑(BitVec.ofInt 32 (IntKind.u32.wrap (IntKind.u32.wrap ↑d.toNat * 2 ^ 24)) ||| BitVec.ofInt 32 (IntKind.u32.wrap (IntKind.u32.wrap ↑c.toNat * 2 ^ 16))).toNat) ||| BitVec.ofInt 32 (IntKind.u32.wrap (IntKind.u32.wrap ↑b.toNat * 2 ^ 8))).toNat) ||| BitVec.ofInt 32 (IntKind.u32.wrap ↑a.toNat)).toNat = num4 a b c d := by
  have ha := a.toNat_lt
  have hb := b.toNat_lt
  have hc := c.toNat_lt
  have hd := d.toNat_lt
  rw [w32n a.toNat (by omega), sh32 b.toNat 8 (by omega) (by omega), sh32 c.toNat 16 (by omega) (by omega), sh32 d.toNat 24 (by omega) (by omega), orw (d.toNat * 2 ^ 24) _ 24 (by omega) (by omega) (by omega),
    orw _ (b.toNat * 2 ^ 8) 16 (by omega) (by omega) (by omega), orw _ a.toNat 8 (by omega) (by omega) (by omega)]
  unfold num4
  congr 1
  omega
theorem getP3 (a b c : UInt8) : IntKind.u32.wrap ↑(BitVec.ofInt 32 (IntKind.u32.wrap ↑(BitVec.ofInt 32 (IntKind.u32.wrap ↑(BitVec.ofInt 32 0 ||| BitVec.ofInt 32 (IntKind.u32.wrap (IntKind.u32.wrap ↑b.toNat * 2 ^ 8))).toNat) ||| BitVec.ofInt 32 (IntKind.u32.wrap ↑a.toNat)).toNat) |||
    BitVec.ofInt 32 (IntKind.u32.wrap (IntKind.u32.wrap ↑(BitVec.ofInt 32 0 ||| BitVec.ofInt 32 (IntKind.u32.wrap ↑c.toNat)).toNat * 2 ^ 16))).toNat = num3 a b c := by
  have ha := a.toNat_lt
  have hb := b.toNat_lt
  have hc := c.toNat_lt
  have h0 : (BitVec.ofInt 32 0 ||| BitVec.ofInt 32 (c.toNat : Int)).toNat = c.toNat := by
    simp
  rw [getP2', w32n c.toNat (by omega), h0, sh32 _ 16 (by omega) (by omega)]
  unfold num2
  rw [orv _ _ 16 (by omega) (by omega) (by omega)]
  unfold num3
  congr 1

/-! As the document reads them. -/
theorem getR1 (a : UInt8) : IntKind.u8.wrap (IntKind.u32.wrap ↑(BitVec.ofInt 32 0 ||| BitVec.ofInt 32 (IntKind.u32.wrap (IntKind.u32.wrap ↑a.toNat * 2 ^ 0))).toNat) = num1 a := by
  have ha := a.toNat_lt
  rw [sh32 _ 0 (by omega) (by omega), or0 _ (by omega), Nat.pow_zero, Nat.mul_one, w8n _ (by omega)]
  rfl
theorem getR2' (a b : UInt8) : IntKind.u32.wrap ↑(BitVec.ofInt 32 (IntKind.u32.wrap ↑(BitVec.ofInt 32 0 ||| BitVec.ofInt 32 (IntKind.u32.wrap (IntKind.u32.wrap ↑a.toNat * 2 ^ 0))).toNat) ||| BitVec.ofInt 32 (IntKind.u32.wrap (IntKind.u32.wrap ↑b.toNat * 2 ^ 8))).toNat = num2 a b := by
  have ha := a.toNat_lt
  have hb := b.toNat_lt
  rw [sh32 a.toNat 0 (by omega) (by omega), sh32 b.toNat 8 (by omega) (by omega), or0 _ (by omega), Nat.pow_zero, Nat.mul_one, orv _ _ 8 (by omega) (by omega) (by omega)]
  unfold num2
  congr 1
theorem getR2 (a b : UInt8) : IntKind.u16.wrap (IntKind.u32.wrap ↑(BitVec.ofInt 32 (IntKind.u32.wrap ↑(BitVec.ofInt 32 0 ||| BitVec.ofInt 32 (IntKind.u32.wrap (IntKind.u32.wrap ↑a.toNat * 2 ^ 0))).toNat) ||| BitVec.ofInt 32 (IntKind.u32.wrap (IntKind.u32.wrap ↑b.toNat * 2 ^ 8))).toNat) = num2 a b := by
  have ha := a.toNat_lt
  have hb := b.toNat_lt
  rw [getR2']
  unfold num2
  rw [w16n _ (by omega)]
theorem getR3 (a b c : UInt8) : IntKind.u32.wrap ↑(BitVec.ofInt 32 (IntKind.u32.wrap ↑(BitVec.ofInt 32 (IntKind.u32.wrap ↑(BitVec.ofInt 32 0 ||| BitVec.ofInt 32 (IntKind.u32.wrap (IntKind.u32.wrap ↑a.toNat * 2 ^ 0))).toNat) ||| BitVec.ofInt 32 (IntKind.u32.wrap (IntKind.u32.wrap ↑b.toNat * 2 ^ 8))).toNat) ||| BitVec.ofInt 32 (IntKind.u32.wrap (IntKind.u32.wrap ↑c.toNat * 2 ^ 16))).toNat = num3 a b c := by
  have ha := a.toNat_lt
  have hb := b.toNat_lt
  have hc := c.toNat_lt
  rw [getR2', sh32 c.toNat 16 (by omega) (by omega)]
  unfold num2
  rw [orv _ _ 16 (by omega) (by omega) (by omega)]
  unfold num3
  congr 1
theorem getR4 (a b c d : UInt8) : IntKind.u32.wrap ↑(BitVec.ofInt 32 (IntKind.u32.wrap ↑(BitVec.ofInt 32 (IntKind.u32.wrap ↑(BitVec.ofInt 32 (IntKind.u32.wrap ↑(BitVec.ofInt 32 0 ||| BitVec.ofInt 32 (IntKind.u32.wrap (IntKind.u32.wrap ↑a.toNat * 2 ^ 0))).toNat) ||| BitVec.ofInt 32 (IntKind.u32.wrap (IntKind.u32.wrap ↑b.toNat * 2 ^ 8))).toNat) ||| BitVec.ofInt 32 (IntKind.u32.wrap (IntKind.u32.wrap ↑c.toNat * 2 ^ 16))).toNat) ||| BitVec.ofInt 32 (IntKind.u32.wrap (IntKind.u32.wrap ↑d.toNat * 2 ^ 24))).toNat = num4 a b c d := by
  have ha := a.toNat_lt
  have hb := b.toNat_lt
  have hc := c.toNat_lt
  have hd := d.toNat_lt
  rw [getR3, sh32 d.toNat 24 (by omega) (by omega)]
  unfold num3
  rw [orv _ _ 24 (by omega) (by omega) (by omega)]
  unfold num4
  congr 1

/-! A number's bytes. -/
def byteK (c : Int) (k : Nat) : UInt8 := UInt8.ofNat (c.toNat / 2 ^ k)
theorem byte_ofNat_mod (m : Nat) : UInt8.ofNat (m % 256) = UInt8.ofNat m := by
  apply UInt8.toNat_inj.1
  simp
theorem byteK_eq (c : Int) (h : 0 ≤ c) (k : Nat) : UInt8.ofNat (IntKind.u8.wrap (c.fdiv (2 ^ k))).toNat = byteK c k := by
  obtain ⟨n, rfl⟩ := Int.eq_ofNat_of_zero_le h
  have h1 : ((n : Int)).fdiv (2 ^ k) = ((n / 2 ^ k : Nat) : Int) := by
    rw [show (2 : Int) ^ k = ((2 ^ k : Nat) : Int) by simp, Int.fdiv_eq_ediv_of_nonneg _ (Int.natCast_nonneg _)]
    simp
  rw [h1, IntKind.wrap_u8]
  unfold byteK
  rw [← byte_ofNat_mod (((n : Int)).toNat / 2 ^ k)]
  congr 1
theorem num2_byteK (c : Int) (h : 0 ≤ c ∧ c < 65536) : num2 (byteK c 0) (byteK c 8) = c := by
  unfold num2 byteK
  simp only [UInt8.toNat_ofNat']
  omega
theorem num1_byteK (c : Int) (h : 0 ≤ c ∧ c < 256) : num1 (byteK c 0) = c := by
  unfold num1 byteK
  simp only [UInt8.toNat_ofNat']
  omega
theorem num3_byteK (c : Int) (h : 0 ≤ c ∧ c < 16777216) : num3 (byteK c 0) (byteK c 8) (byteK c 16) = c := by
  unfold num3 byteK
  simp only [UInt8.toNat_ofNat']
  omega
theorem num4_byteK (c : Int) (h : 0 ≤ c ∧ c < 4294967296) : num4 (byteK c 0) (byteK c 8) (byteK c 16) (byteK c 24) = c := by
  unfold num4 byteK
  simp only [UInt8.toNat_ofNat']
  omega
theorem byteK_num (a b c d : UInt8) : byteK (num4 a b c d) 0 = a ∧ byteK (num4 a b c d) 8 = b ∧ byteK (num4 a b c d) 16 = c ∧ byteK (num4 a b c d) 24 = d := by
  have ha := a.toNat_lt
  have hb := b.toNat_lt
  have hc := c.toNat_lt
  have hd := d.toNat_lt
  unfold byteK num4
  refine ⟨?_, ?_, ?_, ?_⟩ <;> apply UInt8.toNat_inj.1 <;> simp only [UInt8.toNat_ofNat', Int.toNat_natCast] <;> omega
theorem byteK_num3 (a b c : UInt8) : byteK (num3 a b c) 0 = a ∧ byteK (num3 a b c) 8 = b ∧ byteK (num3 a b c) 16 = c := by
  have ha := a.toNat_lt
  have hb := b.toNat_lt
  have hc := c.toNat_lt
  unfold byteK num3
  refine ⟨?_, ?_, ?_⟩ <;> apply UInt8.toNat_inj.1 <;> simp only [UInt8.toNat_ofNat', Int.toNat_natCast] <;> omega
theorem byteK_num2 (a b : UInt8) : byteK (num2 a b) 0 = a ∧ byteK (num2 a b) 8 = b := by
  have ha := a.toNat_lt
  have hb := b.toNat_lt
  unfold byteK num2
  refine ⟨?_, ?_⟩ <;> apply UInt8.toNat_inj.1 <;> simp only [UInt8.toNat_ofNat', Int.toNat_natCast] <;> omega
theorem byteK_num1 (a : UInt8) : byteK (num1 a) 0 = a := by
  have ha := a.toNat_lt
  unfold byteK num1
  apply UInt8.toNat_inj.1
  simp only [UInt8.toNat_ofNat', Int.toNat_natCast]
  omega
end Go.Proofs.Ytnnagaioiodniaa
