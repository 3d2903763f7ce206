/-
  Plain law of layer 3: what is made tells both, at each cursor that wanders within the ring. No program.
-/
import Derived.Test.YtdljpnebpoaeiaaBndRef2
namespace Go.Proofs.Ytdljpnebpoaeiaa
open Go.RowKit

/-- The place of a cursor tells the turn. -/
theorem place_tells (X q z : Nat) (h1 : X ≤ q + 1024) (h2 : q < X + 3072) (h3 : X ≤ z + 1024) (h4 : z < X + 3072) :
    (((q / 4096 : Nat) : Int) - (turnN (q % 4096) (edgeN (X % 4096)) : Nat) + (turnN (z % 4096) (edgeN (X % 4096)) : Nat)) * 4096 + (z % 4096 : Nat) = (z : Int) := by
  unfold turnN edgeN
  split <;> split <;> omega

theorem of_tells {k X c z : Nat} (h1 : X ≤ c / 2 ^ k + 1024) (h2 : c / 2 ^ k < X + 3072) (h3 : X ≤ z + 1024) (h4 : z < X + 3072) : ofN k (X % 4096) c (z % 4096) = ((z * 2 ^ k : Nat) : Int) := by
  unfold ofN highN
  rw [place_tells X (c / 2 ^ k) z h1 h2 h3 h4]
  simp

/-- What the parts of a base and a top tell, at a cursor that may be there. -/
theorem enc_tells {b t c : Nat} (hb : b < 4294967296) (hbt : b ≤ t) (ht : t ≤ 4294967296)
    (h1 : b / 2 ^ expoN b t ≤ c / 2 ^ expoN b t + 1024) (h2 : c / 2 ^ expoN b t < b / 2 ^ expoN b t + 3072) :
    encE b t = expoN b t ∧ tellB (encE b t) (encB b t) (encT b t) c = (dnN b (expoN b t) : Nat) ∧ tellT (encE b t) (encB b t) (encT b t) c = (upN t (expoN b t) : Nat) ∧ tellOk (encE b t) (encB b t) (encT b t) c = true ∧
      decN (encE b t) (encB b t) (encT b t) c = (dnN b (expoN b t), upN t (expoN b t)) := by
  have hr : rightN b t = true := by simp [rightN, hbt, ht]
  have hk := expo_le b t
  have hf := expo_fits (b := b) ht
  have hd1 := dn_le b (expoN b t)
  have hu1 := up_ge t (expoN b t)
  have hw := up_whole (t := t) hk ht
  unfold encE encB encT
  rw [if_pos hr, if_pos hr, if_pos hr]
  have hY : upN t (expoN b t) / 2 ^ expoN b t * 2 ^ expoN b t = upN t (expoN b t) := by
    unfold upN; rw [Nat.mul_div_cancel _ (pow_pos2 _)]
  have hX : b / 2 ^ expoN b t * 2 ^ expoN b t = dnN b (expoN b t) := rfl
  generalize expoN b t = k at *
  have hp := pow_pos2 k
  have hXY : b / 2 ^ k ≤ upN t k / 2 ^ k := Nat.div_le_div_right (by omega)
  have hYX : upN t k / 2 ^ k ≤ b / 2 ^ k + 2048 := by
    unfold fitsN at hf
    simp only [decide_eq_true_eq] at hf
    have : upN t k / 2 ^ k * 2 ^ k ≤ (b / 2 ^ k + 2048) * 2 ^ k := by rw [hY, Nat.add_mul, hX]; omega
    exact Nat.le_of_mul_le_mul_right this hp
  have hmay : mayN k (b / 2 ^ k % 4096) (upN t k / 2 ^ k % 4096) = true := mayN_mk hk (by omega) (by omega)
  have hB : tellB k (b / 2 ^ k % 4096) (upN t k / 2 ^ k % 4096) c = (dnN b k : Nat) := by
    unfold tellB; rw [if_pos hmay, of_tells h1 h2 (by omega) (by omega), hX]
  have hT : tellT k (b / 2 ^ k % 4096) (upN t k / 2 ^ k % 4096) c = (upN t k : Nat) := by
    unfold tellT; rw [if_pos hmay, of_tells h1 h2 (by omega) (by omega), hY]
  have hO : tellOk k (b / 2 ^ k % 4096) (upN t k / 2 ^ k % 4096) c = true := by
    unfold tellOk
    rw [hmay, hB, hT]
    simp only [Bool.and_eq_true, decide_eq_true_eq]
    exact ⟨⟨⟨trivial, by omega⟩, by omega⟩, by omega⟩
  refine ⟨rfl, hB, hT, hO, ?_⟩
  unfold decN
  rw [if_pos ⟨hO, by rw [hB]; omega⟩, hB, hT]
  rfl

/-- A cursor from the base to the top. -/
theorem enc_at {b t c : Nat} (hb : b < 4294967296) (hbt : b ≤ t) (ht : t ≤ 4294967296) (h1 : b ≤ c) (h2 : c ≤ t) :
    decN (encE b t) (encB b t) (encT b t) c = (dnN b (expoN b t), upN t (expoN b t)) := by
  have hf := expo_fits (b := b) ht
  have hu1 := up_ge t (expoN b t)
  refine (enc_tells hb hbt ht (Nat.le_trans (Nat.div_le_div_right h1) (Nat.le_add_right _ _)) ?_).2.2.2.2
  have hY : upN t (expoN b t) / 2 ^ expoN b t * 2 ^ expoN b t = upN t (expoN b t) := by
    unfold upN; rw [Nat.mul_div_cancel _ (pow_pos2 _)]
  have hX : b / 2 ^ expoN b t * 2 ^ expoN b t = dnN b (expoN b t) := rfl
  generalize expoN b t = k at *
  have hp := pow_pos2 k
  unfold fitsN at hf
  simp only [decide_eq_true_eq] at hf
  have h3 : c / 2 ^ k ≤ upN t k / 2 ^ k := Nat.div_le_div_right (by omega)
  have h4 : upN t k / 2 ^ k * 2 ^ k ≤ (b / 2 ^ k + 2048) * 2 ^ k := by rw [hY, Nat.add_mul, hX]; omega
  have h5 := Nat.le_of_mul_le_mul_right h4 hp
  omega

/-- How far a cursor may go. -/
theorem enc_wander {b t c : Nat} (hb : b < 4294967296) (hbt : b ≤ t) (ht : t ≤ 4294967296) (h1 : dnN b (expoN b t) ≤ c + 1024 * 2 ^ expoN b t) (h2 : c < dnN b (expoN b t) + 3072 * 2 ^ expoN b t) :
    tellB (encE b t) (encB b t) (encT b t) c = (dnN b (expoN b t) : Nat) ∧ tellT (encE b t) (encB b t) (encT b t) c = (upN t (expoN b t) : Nat) ∧ tellOk (encE b t) (encB b t) (encT b t) c = true := by
  have hX : b / 2 ^ expoN b t * 2 ^ expoN b t = dnN b (expoN b t) := rfl
  have hp := pow_pos2 (expoN b t)
  have g1 : b / 2 ^ expoN b t ≤ c / 2 ^ expoN b t + 1024 := by
    generalize 2 ^ expoN b t = U at *
    have e1 := Nat.div_add_mod c U
    have e2 := Nat.mod_lt c hp
    rw [Nat.mul_comm] at e1
    have : b / U * U < (c / U + 1024 + 1) * U := by
      rw [Nat.add_mul, Nat.add_mul, hX]; omega
    have := Nat.lt_of_mul_lt_mul_right this
    omega
  have g2 : c / 2 ^ expoN b t < b / 2 ^ expoN b t + 3072 := by
    refine (Nat.div_lt_iff_lt_mul hp).2 ?_
    rw [Nat.add_mul, hX]; exact h2
  obtain ⟨_, h3, h4, h5, _⟩ := enc_tells hb hbt ht g1 g2
  exact ⟨h3, h4, h5⟩

theorem up_mono {x y e : Nat} (h : x ≤ y) : upN x e ≤ upN y e := by
  unfold upN
  exact Nat.mul_le_mul_right _ (Nat.div_le_div_right (by omega))
theorem up_idem (x e : Nat) : upN (upN x e) e = upN x e := by
  refine Nat.le_antisymm ?_ (up_ge _ _)
  have h : upN x e = (x + (2 ^ e - 1)) / 2 ^ e * 2 ^ e := rfl
  rw [h]
  exact up_least (Nat.le_refl _)
/-- The exponent of what was padded. -/
theorem pad_again {s : Nat} (hs : s < 4294967296) : expoN 0 (upN s (expoN 0 s)) = expoN 0 s := by
  have hk := expo_le 0 s
  have hw := up_whole (t := s) hk (by omega)
  refine expo_unique ?_ (fun j hj => ?_) hw
  · have hf := expo_fits (b := 0) (t := s) (by omega)
    rw [fits_zero] at hf ⊢
    rw [up_idem]; exact hf
  · have hf := expo_least hj
    rw [fits_zero] at hf ⊢
    simp only [decide_eq_false_iff_not] at hf ⊢
    have := up_mono (e := j) (up_ge s (expoN 0 s))
    omega
theorem dn_mul (a k j : Nat) (h : j ≤ k) : dnN (a * 2 ^ k) j = a * 2 ^ k := by
  unfold dnN
  have e : a * 2 ^ k = a * 2 ^ (k - j) * 2 ^ j := by rw [Nat.mul_assoc, ← Nat.pow_add, Nat.sub_add_cancel h]
  rw [e, Nat.mul_div_cancel _ (pow_pos2 j)]
theorem up_mul (a k j : Nat) (h : j ≤ k) : upN (a * 2 ^ k) j = a * 2 ^ k := by
  refine Nat.le_antisymm ?_ (up_ge _ _)
  have e : a * 2 ^ k = a * 2 ^ (k - j) * 2 ^ j := by rw [Nat.mul_assoc, ← Nat.pow_add, Nat.sub_add_cancel h]
  rw [e]
  exact up_least (Nat.le_refl _)
/-- Padded bytes, from a multiple on, have exact bounds. -/
theorem pad_exact {a p k : Nat} (hp : p * 2 ^ k ≤ 2048 * 2 ^ k) (ht : a * 2 ^ k + p * 2 ^ k ≤ 4294967296) : encX (a * 2 ^ k) (a * 2 ^ k + p * 2 ^ k) = true ∧ rightN (a * 2 ^ k) (a * 2 ^ k + p * 2 ^ k) = true := by
  have hr : rightN (a * 2 ^ k) (a * 2 ^ k + p * 2 ^ k) = true := by simp [rightN, ht]
  refine ⟨?_, hr⟩
  have e : a * 2 ^ k + p * 2 ^ k = (a + p) * 2 ^ k := by rw [Nat.add_mul]
  have hle : expoN (a * 2 ^ k) (a * 2 ^ k + p * 2 ^ k) ≤ k := by
    rcases Nat.lt_or_ge k (expoN (a * 2 ^ k) (a * 2 ^ k + p * 2 ^ k)) with h | h
    · have := expo_least h
      unfold fitsN at this
      rw [dn_mul _ _ _ (Nat.le_refl k), e, up_mul _ _ _ (Nat.le_refl k), ← e] at this
      simp only [decide_eq_false_iff_not] at this
      omega
    · exact h
  unfold encX
  rw [hr, dn_mul _ _ _ hle]
  have : upN (a * 2 ^ k + p * 2 ^ k) (expoN (a * 2 ^ k) (a * 2 ^ k + p * 2 ^ k)) = a * 2 ^ k + p * 2 ^ k := by
    generalize expoN (a * 2 ^ k) (a * 2 ^ k + p * 2 ^ k) = j at hle
    rw [e, up_mul _ _ _ hle]
  rw [this]
  simp
/-- Up to 2048 bytes. -/
theorem small_exact {b t : Nat} (h : b ≤ t) (h2 : t ≤ b + 2048) (ht : t ≤ 4294967296) : expoN b t = 0 := by
  refine expo_unique ?_ (fun j hj => by omega) ht
  unfold fitsN upN dnN
  simp
  omega
end Go.Proofs.Ytdljpnebpoaeiaa
