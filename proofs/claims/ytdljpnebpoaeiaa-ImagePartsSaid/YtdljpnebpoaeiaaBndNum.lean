/-
  Plain arithmetic of layer 3 (bounds in few bits): no program in sight.
-/
import Derived.Laws.BitsAllLaws
import Derived.IntWalk
import Derived.Laws.Bits64
namespace Go.Proofs.Ytdljpnebpoaeiaa

/-- The turn of a mantissa. -/
def turnN (x edge : Nat) : Nat := if x < edge then 1 else 0
theorem turnN_le (x edge : Nat) : turnN x edge ≤ 1 := by unfold turnN; split <;> omega
/-- The edge of a mantissa. -/
def edgeN (b : Nat) : Nat := (b + 3072) % 4096
/-- The high part at a cursor. -/
def highN (e b c : Nat) : Int := ((c / 2 ^ e / 4096 : Nat) : Int) - (turnN (c / 2 ^ e % 4096) (edgeN b) : Nat)
/-- What a mantissa tells. -/
def ofN (e b c x : Nat) : Int := ((highN e b c + (turnN x (edgeN b) : Nat)) * 4096 + x) * 2 ^ e
/-- May the parts be? -/
def mayN (e b t : Nat) : Bool := decide (e ≤ 21) && decide (b < 4096) && decide (t < 4096)
def tellB (e b t c : Nat) : Int := if mayN e b t then ofN e b c b else 0
def tellT (e b t c : Nat) : Int := if mayN e b t then ofN e b c t else 0
def tellOk (e b t c : Nat) : Bool := mayN e b t && decide (0 ≤ tellB e b t c) && decide (tellB e b t c ≤ tellT e b t c) && decide (tellT e b t c ≤ 4294967296)

theorem mayN_true {e b t : Nat} (h : mayN e b t = true) : e ≤ 21 ∧ b < 4096 ∧ t < 4096 := by
  simp only [mayN, Bool.and_eq_true, decide_eq_true_eq] at h; exact ⟨h.1.1, h.1.2, h.2⟩
theorem mayN_mk {e b t : Nat} (h1 : e ≤ 21) (h2 : b < 4096) (h3 : t < 4096) : mayN e b t = true := by simp [mayN, h1, h2, h3]

theorem pow_le_21 {e : Nat} (h : e ≤ 21) : 2 ^ e ≤ 2097152 := by
  have := Nat.pow_le_pow_right (n := 2) (by omega) h
  simpa using this
theorem pow_pos2 (e : Nat) : 0 < 2 ^ e := Nat.pow_pos (by omega)

theorem high_bd {e b c : Nat} (hc : c < 4294967296) : -1 ≤ highN e b c ∧ highN e b c ≤ 1048575 := by
  unfold highN
  have h1 := turnN_le (c / 2 ^ e % 4096) (edgeN b)
  have h2 : c / 2 ^ e ≤ c := Nat.div_le_self _ _
  generalize c / 2 ^ e = q at h1 h2 ⊢
  have h3 : q / 4096 ≤ 1048575 := by omega
  omega

/-- A product with a power of two does not wrap. -/
theorem mul_pow_bd {e : Nat} (he : e ≤ 21) (y : Int) (h1 : -8589934592 ≤ y) (h2 : y ≤ 8589934592) : -9223372036854775808 ≤ y * 2 ^ e ∧ y * 2 ^ e ≤ 9223372036854775807 := by
  have hp := pow_le_21 he
  have h0 := pow_pos2 e
  have e1 : ((2 : Int) ^ e) = ((2 ^ e : Nat) : Int) := by simp
  rw [e1]
  generalize 2 ^ e = u at hp h0
  have a1 : y * (u : Int) ≤ 8589934592 * (u : Int) := Int.mul_le_mul_of_nonneg_right h2 (by omega)
  have a2 : -8589934592 * (u : Int) ≤ y * (u : Int) := Int.mul_le_mul_of_nonneg_right h1 (by omega)
  omega

theorem of_bd {e b c x : Nat} (hc : c < 4294967296) (hx : x < 65536) : -8589934592 ≤ (highN e b c + (turnN x (edgeN b) : Nat)) * 4096 + x ∧ (highN e b c + (turnN x (edgeN b) : Nat)) * 4096 + x ≤ 8589934592 := by
  have h1 := turnN_le x (edgeN b)
  have h2 := high_bd (e := e) (b := b) hc
  omega

/-- Down to a multiple of 2^e; up to one. -/
def dnN (x e : Nat) : Nat := x / 2 ^ e * 2 ^ e
def upN (x e : Nat) : Nat := (x + (2 ^ e - 1)) / 2 ^ e * 2 ^ e
def fitsN (b t e : Nat) : Bool := decide (upN t e - dnN b e ≤ 2048 * 2 ^ e)
def expoFrom (b t : Nat) : Nat → Nat → Nat
  | 0, e => e
  | n + 1, e => if fitsN b t e then e else expoFrom b t n (e + 1)
def expoN (b t : Nat) : Nat := expoFrom b t 21 0

theorem dn_le (x e : Nat) : dnN x e ≤ x := Nat.div_mul_le_self _ _
theorem up_ge (x e : Nat) : x ≤ upN x e := by
  unfold upN
  have h0 := pow_pos2 e
  have h1 := Nat.div_add_mod (x + (2 ^ e - 1)) (2 ^ e)
  have h2 := Nat.mod_lt (x + (2 ^ e - 1)) h0
  rw [Nat.mul_comm] at h1
  omega
theorem up_lt (x e : Nat) : upN x e < x + 2 ^ e := by
  unfold upN
  have h0 := pow_pos2 e
  have h1 := Nat.div_mul_le_self (x + (2 ^ e - 1)) (2 ^ e)
  omega
theorem dn_lt (x e : Nat) : x < dnN x e + 2 ^ e := by
  unfold dnN
  have h0 := pow_pos2 e
  have h1 := Nat.div_add_mod x (2 ^ e)
  have h2 := Nat.mod_lt x h0
  rw [Nat.mul_comm] at h1
  omega
/-- A multiple that is not below x is not below the least one. -/
theorem up_least {x e k : Nat} (h : x ≤ k * 2 ^ e) : upN x e ≤ k * 2 ^ e := by
  unfold upN
  have h0 := pow_pos2 e
  have : (x + (2 ^ e - 1)) / 2 ^ e ≤ k := by
    have h1 : (x + (2 ^ e - 1)) / 2 ^ e < k + 1 := (Nat.div_lt_iff_lt_mul h0).2 (by rw [Nat.add_mul, Nat.one_mul]; omega)
    omega
  exact Nat.mul_le_mul_right _ this
theorem up_whole {t e : Nat} (he : e ≤ 21) (ht : t ≤ 4294967296) : upN t e ≤ 4294967296 := by
  have hd : 2 ^ e * 2 ^ (32 - e) = 4294967296 := by rw [← Nat.pow_add, show e + (32 - e) = 32 by omega]
  have := up_least (x := t) (e := e) (k := 2 ^ (32 - e)) (by rw [Nat.mul_comm, hd]; exact ht)
  rw [Nat.mul_comm, hd] at this
  exact this
theorem fits_21 {b t : Nat} (ht : t ≤ 4294967296) : fitsN b t 21 = true := by
  unfold fitsN
  have := up_whole (e := 21) (by omega) ht
  simp only [decide_eq_true_eq]
  omega
theorem expoFrom_le (b t : Nat) : ∀ n e, expoFrom b t n e ≤ e + n := by
  intro n
  induction n with
  | zero => intro e; exact Nat.le_refl _
  | succ n ih =>
    intro e
    unfold expoFrom
    split
    · omega
    · have := ih (e + 1); omega
theorem expo_le (b t : Nat) : expoN b t ≤ 21 := by
  have := expoFrom_le b t 21 0
  unfold expoN; omega
theorem expoFrom_fits (b t : Nat) : ∀ n e, (expoFrom b t n e = e + n ∨ fitsN b t (expoFrom b t n e) = true) ∧ ∀ j, e ≤ j → j < expoFrom b t n e → fitsN b t j = false := by
  intro n
  induction n with
  | zero => intro e; exact ⟨.inl rfl, fun j h1 h2 => by simp [expoFrom] at h2; omega⟩
  | succ n ih =>
    intro e
    unfold expoFrom
    split
    · rename_i h; exact ⟨.inr h, fun j h1 h2 => by omega⟩
    · rename_i h
      obtain ⟨h1, h2⟩ := ih (e + 1)
      refine ⟨?_, fun j hj1 hj2 => ?_⟩
      · rcases h1 with h1 | h1
        · left; omega
        · exact .inr h1
      · rcases Nat.lt_or_ge j (e + 1) with hj | hj
        · obtain rfl : j = e := by omega
          simpa using h
        · exact h2 j hj hj2
theorem expo_fits {b t : Nat} (ht : t ≤ 4294967296) : fitsN b t (expoN b t) = true := by
  have := (expoFrom_fits b t 21 0).1
  unfold expoN
  rcases this with h | h
  · rw [h]; exact fits_21 ht
  · exact h
theorem expo_least {b t j : Nat} (h : j < expoN b t) : fitsN b t j = false := (expoFrom_fits b t 21 0).2 j (by omega) h
theorem expo_unique {b t k : Nat} (hk : fitsN b t k = true) (hl : ∀ j, j < k → fitsN b t j = false) (ht : t ≤ 4294967296) : expoN b t = k := by
  rcases Nat.lt_trichotomy (expoN b t) k with h | h | h
  · have := hl _ h; rw [expo_fits ht] at this; cases this
  · exact h
  · have := expo_least h; rw [hk] at this; cases this

/-- Bits struck. -/
theorem and_high (a e : Nat) (ha : a < 18446744073709551616) (he : e ≤ 64) : a &&& (18446744073709551615 - (2 ^ e - 1)) = a / 2 ^ e * 2 ^ e := by
  have h0 := pow_pos2 e
  have h1 : 18446744073709551615 - (2 ^ e - 1) = 2 ^ 64 - ((2 ^ e - 1) + 1) := by
    have : 2 ^ e ≤ 2 ^ 64 := Nat.pow_le_pow_right (by omega) he
    omega
  rw [h1]
  apply Nat.eq_of_testBit_eq
  intro i
  have h2 : 2 ^ e ≤ 2 ^ 64 := Nat.pow_le_pow_right (by omega) he
  rw [Nat.testBit_and, Nat.testBit_two_pow_sub_succ (by omega), Nat.testBit_two_pow_sub_one, Nat.testBit_mul_two_pow, Nat.testBit_div_two_pow]
  by_cases hi : e ≤ i
  · rw [Nat.sub_add_cancel hi]
    have e1 : decide (i < e) = false := by simp; omega
    have e2 : decide (e ≤ i) = true := by simpa using hi
    rw [e1, e2]
    by_cases h64 : i < 64
    · have e3 : decide (i < 64) = true := by simpa using h64
      rw [e3]; simp
    · have : a.testBit i = false := Nat.testBit_lt_two_pow (Nat.lt_of_lt_of_le ha (Nat.pow_le_pow_right (n := 2) (by omega) (show 64 ≤ i by omega)))
      rw [this]; simp
  · have e1 : decide (i < e) = true := by simp; omega
    have e2 : decide (e ≤ i) = false := by simpa using hi
    rw [e1, e2]; simp

theorem edge_bits (b : Nat) (_hb : b < 4096) : bits .and .u16 (IntKind.u16.wrap ((b : Int) - 1024)) 4095 = ((edgeN b : Nat) : Int) := by
  have e : IntKind.u16.wrap ((b : Int) - 1024) = (((b + 64512) % 65536 : Nat) : Int) := by rw [IntKind.wrap_u16]; omega
  rw [e]
  have := u16_and_nat ((b + 64512) % 65536) 4095 (by omega) (by omega)
  rw [nat_mask12] at this
  rw [show ((4095 : Int)) = ((4095 : Nat) : Int) from rfl, this]
  unfold edgeN; omega
theorem mid_bits (q : Nat) (hq : q < 4294967296) : bits .and .i64 (q : Int) 4095 = ((q % 4096 : Nat) : Int) := by
  have h1 : (BitVec.ofInt 64 (q : Int)).toNat = q := by
    rw [BitVec.ofInt_natCast, BitVec.toNat_ofNat]; exact Nat.mod_eq_of_lt (by omega)
  show IntKind.i64.wrap ((BitVec.ofInt 64 (q : Int) &&& BitVec.ofInt 64 (4095 : Int)).toNat : Int) = _
  rw [BitVec.toNat_and, h1, show (BitVec.ofInt 64 (4095 : Int)).toNat = 4095 from rfl, nat_mask12, IntKind.wrap_i64]
  omega

theorem low_wrap {e : Nat} (he : e ≤ 21) : IntKind.u64.wrap (IntKind.u64.wrap ((2 : Int) ^ e) - 1) = ((2 ^ e - 1 : Nat) : Int) := by
  have hp := pow_le_21 he
  have h0 := pow_pos2 e
  have e1 : ((2 : Int) ^ e) = ((2 ^ e : Nat) : Int) := by simp
  rw [e1, IntKind.wrap_u64, IntKind.wrap_u64]
  generalize 2 ^ e = u at hp h0
  omega
theorem andNot_dn (x e : Nat) (hx : x < 18446744073709551616) (he : e ≤ 21) : bits .andNot .u64 (x : Int) ((2 ^ e - 1 : Nat) : Int) = ((x / 2 ^ e * 2 ^ e : Nat) : Int) := by
  have hp := pow_le_21 he
  rw [u64_andNot_nat x (2 ^ e - 1) hx (by omega), and_high x e hx (by omega)]

theorem u64_mask12 (x : Nat) (hx : x < 18446744073709551616) : bits .and .u64 (x : Int) 4095 = ((x % 4096 : Nat) : Int) := by
  have := u64_and_nat x 4095 hx (by omega)
  rw [nat_mask12] at this
  exact this
theorem dn_div (b e : Nat) : dnN b e / 2 ^ e = b / 2 ^ e := by
  unfold dnN; exact Nat.mul_div_cancel _ (pow_pos2 e)

/-- What Encode answers. -/
def rightN (b t : Nat) : Bool := decide (b ≤ t) && decide (t ≤ 4294967296)
end Go.Proofs.Ytdljpnebpoaeiaa
