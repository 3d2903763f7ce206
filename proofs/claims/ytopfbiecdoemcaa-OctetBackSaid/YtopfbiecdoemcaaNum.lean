/-
  Plain arithmetic and lists for layer 1 (numbers as bytes): no program in sight.
-/
import Derived.Laws.BitsAllLaws
namespace Go.Proofs.Ytopfbiecdoemcaa

/-- Is it a width? -/
def wd (n : Int) : Bool := n == 1 || n == 2 || n == 4

theorem wd_true {n : Int} (h : wd n = true) : n = 1 ∨ n = 2 ∨ n = 4 := by
  simp only [wd, Bool.or_eq_true, beq_iff_eq] at h; omega
theorem wd_false {n : Int} (h : wd n = false) : n ≠ 1 ∧ n ≠ 2 ∧ n ≠ 4 := by
  simp only [wd, Bool.or_eq_false_iff, beq_eq_false_iff_ne, ne_eq] at h; omega

/-- The number that bytes are, the first byte the least. -/
def le : List UInt8 → Nat
  | [] => 0
  | b :: r => b.toNat + 256 * le r

/-- The bytes of a number. -/
def toLE : Nat → Nat → List UInt8
  | 0, _ => []
  | k + 1, v => UInt8.ofNat v :: toLE k (v / 256)

theorem toLE_length (k v : Nat) : (toLE k v).length = k := by
  induction k generalizing v with
  | zero => rfl
  | succ k ih => simp [toLE, ih]

theorem ofNat_toNat (v : Nat) : (UInt8.ofNat v).toNat = v % 256 := by simp

theorem le_toLE (k v : Nat) : le (toLE k v) = v % 256 ^ k := by
  induction k generalizing v with
  | zero => simp [toLE, le, Nat.mod_one]
  | succ k ih =>
    simp only [toLE, le, ih, ofNat_toNat]
    rw [Nat.pow_succ, Nat.mul_comm (256 ^ k) 256, Nat.mod_mul]

theorem le_lt (l : List UInt8) : le l < 256 ^ l.length := by
  induction l with
  | nil => simp [le]
  | cons b r ih =>
    simp only [le, List.length_cons, Nat.pow_succ]
    have := b.toNat_lt
    omega

theorem toLE_le (l : List UInt8) : toLE l.length (le l) = l := by
  induction l with
  | nil => rfl
  | cons b r ih =>
    simp only [le, List.length_cons, toLE]
    have hb := b.toNat_lt
    have h1 : (b.toNat + 256 * le r) / 256 = le r := by omega
    have h2 : UInt8.ofNat (b.toNat + 256 * le r) = b := by
      apply UInt8.toNat_inj.1
      rw [ofNat_toNat]; omega
    rw [h1, h2, ih]

theorem toLE_mod (k v : Nat) : toLE k (v % 256 ^ k) = toLE k v := by
  have h := toLE_le (toLE k v)
  rw [toLE_length, le_toLE] at h
  exact h

theorem le_append (a b : List UInt8) : le (a ++ b) = le a + 256 ^ a.length * le b := by
  induction a with
  | nil => simp [le]
  | cons x r ih =>
    simp only [List.cons_append, le, ih, List.length_cons, Nat.pow_succ]
    rw [Nat.mul_add, Nat.add_assoc, Nat.mul_comm (256 ^ r.length) 256, Nat.mul_assoc]

/-- May so many bytes be taken at a place? -/
def okAt (n : Nat) (at_ width : Int) : Bool := wd width && decide (0 ≤ at_) && decide (at_ ≤ n - width)

/-- What Get answers. -/
def gotN (l : List UInt8) (at_ width : Int) : Nat := if okAt l.length at_ width then le ((l.drop at_.toNat).take width.toNat) else 0

/-- What Put answers. -/
def putN (s : List UInt8) (width : Int) (v : Nat) : List UInt8 := if wd width then s ++ toLE width.toNat v else s

theorem okAt_true {n : Nat} {a k : Int} (h : okAt n a k = true) : wd k = true ∧ 0 ≤ a ∧ a ≤ n - k := by
  simp only [okAt, Bool.and_eq_true, decide_eq_true_eq] at h; exact ⟨h.1.1, h.1.2, h.2⟩
theorem okAt_mk {n : Nat} {a k : Int} (h : wd k = true) (h0 : 0 ≤ a) (h1 : a ≤ n - k) : okAt n a k = true := by
  simp [okAt, h, h0, h1]
theorem okAt_wd {n : Nat} {a k : Int} (h : wd k = false) : okAt n a k = false := by simp [okAt, h]
theorem okAt_neg {n : Nat} {a k : Int} (h : a < 0) : okAt n a k = false := by
  have : ¬ 0 ≤ a := by omega
  simp [okAt, this]
theorem okAt_far {n : Nat} {a k : Int} (h : n - k < a) : okAt n a k = false := by
  have : ¬ a ≤ n - k := by omega
  simp [okAt, this]

theorem gotN_lt (l : List UInt8) (a k : Int) : gotN l a k < 4294967296 := by
  unfold gotN
  split
  · rename_i h
    have hw := wd_true (okAt_true h).1
    have hl := le_lt ((l.drop a.toNat).take k.toNat)
    have h4 : ((l.drop a.toNat).take k.toNat).length ≤ 4 := by
      rw [List.length_take]; omega
    have hp : 256 ^ ((l.drop a.toNat).take k.toNat).length ≤ 256 ^ 4 := Nat.pow_le_pow_right (by omega) h4
    omega
  · omega

/-- Two bytes that lie beside each other, joined by 'or'. -/
theorem or2 (a b : Nat) (ha : a < 256) : (b * 256) ||| a = a + 256 * b := by
  rw [nat_join 8 (b * 256) a (by omega) (by omega)]; omega
theorem or4 (a b c d : Nat) (ha : a < 256) (hb : b < 256) (hc : c < 256) :
    (((d * 16777216) ||| (c * 65536)) ||| (b * 256)) ||| a = a + 256 * (b + 256 * (c + 256 * d)) := by
  rw [nat_join 24 (d * 16777216) (c * 65536) (by omega) (by omega), nat_join 16 _ (b * 256) (by omega) (by omega), nat_join 8 _ a (by omega) (by omega)]; omega


theorem u32_or4 (b0 b1 b2 b3 : UInt8) :
    bits .or .u32 (bits .or .u32 (bits .or .u32 ((b3.toNat : Int) % 4294967296 * 16777216 % 4294967296) ((b2.toNat : Int) % 4294967296 * 65536 % 4294967296))
      ((b1.toNat : Int) % 4294967296 * 256 % 4294967296)) ((b0.toNat : Int) % 4294967296) = (le [b0, b1, b2, b3] : Nat) := by
  have k0 := b0.toNat_lt; have k1 := b1.toNat_lt; have k2 := b2.toNat_lt; have k3 := b3.toNat_lt
  rw [show (b3.toNat : Int) % 4294967296 * 16777216 % 4294967296 = ((b3.toNat * 16777216 : Nat) : Int) by omega,
    show (b2.toNat : Int) % 4294967296 * 65536 % 4294967296 = ((b2.toNat * 65536 : Nat) : Int) by omega,
    show (b1.toNat : Int) % 4294967296 * 256 % 4294967296 = ((b1.toNat * 256 : Nat) : Int) by omega,
    show (b0.toNat : Int) % 4294967296 = ((b0.toNat : Nat) : Int) by omega]
  have e := or4 b0.toNat b1.toNat b2.toNat b3.toNat k0 k1 k2
  have l2 : b3.toNat * 16777216 ||| b2.toNat * 65536 < 2 ^ 32 := Nat.or_lt_two_pow (by omega) (by omega)
  have l3 : b3.toNat * 16777216 ||| b2.toNat * 65536 ||| b1.toNat * 256 < 2 ^ 32 := Nat.or_lt_two_pow l2 (by omega)
  rw [u32_or_nat _ _ (by omega) (by omega), u32_or_nat _ _ (by omega) (by omega), u32_or_nat _ _ (by omega) (by omega), e]
  simp [le]
theorem u32_or2 (b0 b1 : UInt8) :
    bits .or .u32 ((b1.toNat : Int) % 4294967296 * 256 % 4294967296) ((b0.toNat : Int) % 4294967296) = (le [b0, b1] : Nat) := by
  have k0 := b0.toNat_lt; have k1 := b1.toNat_lt
  rw [show (b1.toNat : Int) % 4294967296 * 256 % 4294967296 = ((b1.toNat * 256 : Nat) : Int) by omega,
    show (b0.toNat : Int) % 4294967296 = ((b0.toNat : Nat) : Int) by omega,
    u32_or_nat _ _ (by omega) (by omega), or2 b0.toNat b1.toNat k0]
  simp [le]
theorem u32_or0 (x : Nat) (hx : x < 4294967296) : bits .or .u32 0 (x : Int) = (x : Int) := by
  have := u32_or_nat 0 x (by omega) hx
  simpa using this

theorem u32_or2' (b0 b1 : UInt8) :
    bits .or .u32 (bits .or .u32 0 ((b1.toNat : Int) % 4294967296 * 256 % 4294967296)) ((b0.toNat : Int) % 4294967296) = (le [b0, b1] : Nat) := by
  have k1 := b1.toNat_lt
  rw [show (b1.toNat : Int) % 4294967296 * 256 % 4294967296 = ((b1.toNat * 256 : Nat) : Int) by omega, u32_or0 _ (by omega)]
  rw [show ((b1.toNat * 256 : Nat) : Int) = (b1.toNat : Int) % 4294967296 * 256 % 4294967296 by omega, u32_or2]
theorem u32_or1 (b0 : UInt8) : bits .or .u32 0 ((b0.toNat : Int) % 4294967296) = (le [b0] : Nat) := by
  have k0 := b0.toNat_lt
  rw [show (b0.toNat : Int) % 4294967296 = ((b0.toNat : Nat) : Int) by omega, u32_or0 _ (by omega)]
  simp [le]

theorem le_take_step (l : List UInt8) (p m : Nat) (h : p < l.length) : le ((l.drop p).take (m + 1)) = l[p].toNat + 256 * le ((l.drop (p + 1)).take m) := by
  rw [List.drop_eq_getElem_cons h]; rfl
theorem le_take_lt (l : List UInt8) (m : Nat) (h : m ≤ 3) : le (l.take m) < 16777216 := by
  have h1 := le_lt (l.take m)
  have h2 : (l.take m).length ≤ m := by rw [List.length_take]; omega
  have hp : 256 ^ (l.take m).length ≤ 256 ^ 3 := Nat.pow_le_pow_right (by omega) (by omega)
  omega
theorem rget_step (l : List UInt8) (a c k : Nat) (h : a + c < l.length) (hc : c + 1 ≤ k) (hk : k ≤ 4) :
    ((le ((l.drop (a + (c + 1))).take (k - (c + 1))) : Nat) * 256 % 4294967296 + (l[a + c].toNat : Int) % 4294967296) % 4294967296 = ((le ((l.drop (a + c)).take (k - c)) : Nat) : Int) := by
  have e : k - c = (k - (c + 1)) + 1 := by omega
  rw [e, le_take_step l (a + c) _ h, Nat.add_assoc]
  have h1 := le_take_lt (l.drop (a + (c + 1))) (k - (c + 1)) (by omega)
  have h2 := (l[a + c]).toNat_lt
  omega

theorem u8_mod (q : Nat) : UInt8.ofNat ((q : Int) % 256 % 256).toNat = UInt8.ofNat q := by
  apply UInt8.toNat_inj.1
  rw [ofNat_toNat, ofNat_toNat]; omega
theorem u8_mod1 (q : Nat) : UInt8.ofNat ((q : Int) % 256).toNat = UInt8.ofNat q := by
  apply UInt8.toNat_inj.1
  rw [ofNat_toNat, ofNat_toNat]; omega

theorem u8_modN (q : Nat) : UInt8.ofNat (q % 256) = UInt8.ofNat q := by
  apply UInt8.toNat_inj.1
  rw [ofNat_toNat, ofNat_toNat]; omega

theorem toLE_snoc (r v : Nat) : toLE (r + 1) v = toLE r v ++ [UInt8.ofNat (v / 256 ^ r)] := by
  induction r generalizing v with
  | zero => simp [toLE]
  | succ r ih =>
    rw [toLE, ih (v / 256), toLE, List.cons_append, Nat.div_div_eq_div_mul, Nat.pow_succ, Nat.mul_comm (256 ^ r) 256]

theorem shr_byte (v r : Nat) : ((v : Int) / 2 ^ (8 * r)) % 256 = ((UInt8.ofNat (v / 256 ^ r)).toNat : Int) := by
  rw [ofNat_toNat, show (256 : Nat) ^ r = 2 ^ (8 * r) by rw [Nat.pow_mul]]
  simp

/-- The bytes that lie at a place, one by one. -/
theorem take_1 (l : List UInt8) (a : Nat) (h : a + 1 ≤ l.length) : (l.drop a).take 1 = [l[a]] := by
  rw [List.drop_eq_getElem_cons (by omega)]; rfl
theorem take_2 (l : List UInt8) (a : Nat) (h : a + 2 ≤ l.length) : (l.drop a).take 2 = [l[a], l[a + 1]] := by
  rw [List.drop_eq_getElem_cons (by omega), List.drop_eq_getElem_cons (by omega)]; rfl
theorem take_4 (l : List UInt8) (a : Nat) (h : a + 4 ≤ l.length) : (l.drop a).take 4 = [l[a], l[a + 1], l[a + 2], l[a + 3]] := by
  rw [List.drop_eq_getElem_cons (by omega), List.drop_eq_getElem_cons (by omega), List.drop_eq_getElem_cons (by omega), List.drop_eq_getElem_cons (by omega)]; rfl

end Go.Proofs.Ytopfbiecdoemcaa
