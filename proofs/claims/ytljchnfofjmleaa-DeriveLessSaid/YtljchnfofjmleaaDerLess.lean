/-
  What is made of a capability lies within it: each of the ways of changed, in plain numbers.
-/
import Derived.Test.YtljchnfofjmleaaDerChg
import Derived.Test.YtljchnfofjmleaaBndMath
import Derived.Test.YtljchnfofjmleaaOpen2
namespace Go.Proofs.Ytljchnfofjmleaa
open Go.RowKit

theorem sub_refl (p : Nat) : subP p p = true := by simp [subP]
theorem lss_and (p q : Nat) : subP (p &&& q) p = true := by
  unfold subP
  rw [decide_eq_true_eq, Nat.and_assoc, Nat.and_comm q p, ← Nat.and_assoc, Nat.and_self]
theorem sub_trans {p q r : Nat} (h : subP p q = true) (k : subP q r = true) : subP p r = true := by
  simp only [subP, decide_eq_true_eq] at h k ⊢
  rw [← h, Nat.and_assoc, k]
theorem in_refl (b t : Nat) : inN b t b t = true := by simp [inN]
theorem in_trans {b t l h u v : Nat} (h1 : inN b t l h = true) (h2 : inN l h u v = true) : inN b t u v = true := by
  simp only [inN, Bool.or_eq_true, Bool.and_eq_true, decide_eq_true_eq] at h1 h2 ⊢
  omega
theorem within_trans {p q r b t l h u v : Nat} (h1 : withinN p q b t l h = true) (h2 : withinN q r l h u v = true) : withinN p r b t u v = true := by
  simp only [withinN, Bool.and_eq_true] at h1 h2 ⊢
  exact ⟨sub_trans h1.1 h2.1, in_trans h1.2 h2.2⟩
theorem within_refl (p b t : Nat) : withinN p p b t b t = true := by
  unfold withinN; rw [sub_refl, in_refl]; rfl
theorem within_less (p q b t : Nat) : withinN (p &&& q) p b t b t = true := by
  unfold withinN; rw [lss_and, in_refl]; rfl
theorem keeps_dec {e b t c n : Nat} (h : keepsN e b t c n = true) : decN e b t n = decN e b t c := by
  simp only [keepsN, Bool.and_eq_true, decide_eq_true_eq] at h
  obtain ⟨⟨h1, h2⟩, h3⟩ := h
  have h4 : tellOk e b t n = true := by
    unfold tellOk at h1 ⊢
    rw [← h2, ← h3]; exact h1
  unfold decN
  rw [h1, h4, h2, h3]
theorem free_valid {cY : Nat} {cV : Bool} (h : freeN cY cV = true) : cV = true := by
  simp only [freeN, Bool.and_eq_true] at h; exact h.1
theorem set_within {cC cP cY : Nat} {cV : Bool} {n x y : Nat} {ex : Bool} (hc : cC < 4294967296) (hr : rightN cC (cC + n) = true) (h : setV cC cY cV n ex x y = true) :
    cV = true ∧ withinN cP cP (decN (encE cC (cC + n)) (encB cC (cC + n)) (encT cC (cC + n)) cC).1 (decN (encE cC (cC + n)) (encB cC (cC + n)) (encT cC (cC + n)) cC).2 x y = true := by
  obtain ⟨r1, r2⟩ := rightN_true hr
  rw [enc_at (b := cC) (t := cC + n) (c := cC) hc r1 r2 (Nat.le_refl _) r1]
  simp only [setV, inR, Bool.and_eq_true, decide_eq_true_eq] at h
  refine ⟨free_valid h.1.1, ?_⟩
  unfold withinN inN
  rw [sub_refl, decide_eq_true h.2.1, decide_eq_true h.2.2]
  simp
theorem enc_capB {cC cE cB cT cP cY cR n : Nat} (cl : capB cC cE cB cT cP cY cR) (hr : rightN cC (cC + n) = true) : capB cC (encE cC (cC + n)) (encB cC (cC + n)) (encT cC (cC + n)) cP cY cR := by
  have hk := expo_le cC (cC + n)
  refine ⟨cl.1, ?_, ?_, ?_, cl.2.2.2.2.1, cl.2.2.2.2.2.1, cl.2.2.2.2.2.2⟩
  · unfold encE; rw [if_pos hr]; omega
  · unfold encB; rw [if_pos hr]; omega
  · unfold encT; rw [if_pos hr]; omega

/-- What a change leaves. -/
theorem chg_less (cC cE cB cT cP cY cR : Nat) (cV : Bool) (bC bE bB bT bP bY bR : Nat) (bV : Bool) (k : Int) (n : Nat) (cl : capB cC cE cB cT cP cY cR) (bl : capB bC bE bB bT bP bY bR) (hn : n < 4294967296) :
    ∃ (rC rE rB rT rP rY rR : Nat) (rV : Bool), capB rC rE rB rT rP rY rR ∧ (rV = true → cV = true ∧ withinN rP cP (decN rE rB rT rC).1 (decN rE rB rT rC).2 (decN cE cB cT cC).1 (decN cE cB cT cC).2 = true) ∧
      ∀ W, Calls Try.prog 33 #[.agg #[.int .u32 cC, .int .u8 cE, .int .u16 cB, .int .u16 cT, .int .u16 cP, .int .u16 cY, .int .u32 cR, .bool cV], .agg #[.int .i64 k, .int .u32 n, .int .u32 bC, .int .u8 bE, .int .u16 bB, .int .u16 bT, .int .u16 bP, .int .u16 bY, .int .u32 bR, .bool bV]] W fun e w' => e = .returned (.tuple #[.agg #[.int .u32 rC, .int .u8 rE, .int .u16 rB, .int .u16 rT, .int .u16 rP, .int .u16 rY, .int .u32 rR, .bool rV], .agg #[.int .u32 cC, .int .u8 cE, .int .u16 cB, .int .u16 cT, .int .u16 cP, .int .u16 cY, .int .u32 cR, .bool cV]]) ∧ Below W.heap.size W w' := by
  by_cases h0 : k = 0
  · subst h0
    refine ⟨_, _, _, _, _, _, _, _, ⟨hn, cl.2⟩, fun h => ?_, fun W => chg_0 cC cE cB cT cP cY cR cV bC bE bB bT bP bY bR bV _ _ _ _ _ _ _ _ n W (fun W => addr_any cC cE cB cT cP cY cR cV n W cl hn)⟩
    rw [Bool.and_eq_true] at h
    rw [keeps_dec h.2]
    exact ⟨free_valid h.1, within_refl _ _ _⟩
  by_cases h1 : k = 1
  · subst h1
    by_cases hr : rightN cC (cC + n) = true
    · exact ⟨_, _, _, _, _, _, _, _, enc_capB cl hr, fun h => set_within cl.1 hr h, fun W => chg_1 cC cE cB cT cP cY cR cV bC bE bB bT bP bY bR bV _ _ _ _ _ _ _ _ n W (fun W => set_y cC cE cB cT cP cY cR cV n _ _ W cl hn rfl rfl hr)⟩
    · exact ⟨_, _, _, _, _, _, _, false, cl, fun h => Bool.noConfusion h, fun W => chg_1 cC cE cB cT cP cY cR cV bC bE bB bT bP bY bR bV _ _ _ _ _ _ _ _ n W (fun W => set_n cC cE cB cT cP cY cR cV n W cl hn (by simpa using hr))⟩
  by_cases h2 : k = 2
  · subst h2
    by_cases hr : rightN cC (cC + n) = true
    · exact ⟨_, _, _, _, _, _, _, _, enc_capB cl hr, fun h => set_within cl.1 hr h, fun W => chg_2 cC cE cB cT cP cY cR cV bC bE bB bT bP bY bR bV _ _ _ _ _ _ _ _ n W (fun W => exact_y cC cE cB cT cP cY cR cV n _ _ W cl hn rfl rfl hr)⟩
    · exact ⟨_, _, _, _, _, _, _, false, cl, fun h => Bool.noConfusion h, fun W => chg_2 cC cE cB cT cP cY cR cV bC bE bB bT bP bY bR bV _ _ _ _ _ _ _ _ n W (fun W => exact_n cC cE cB cT cP cY cR cV n W cl hn (by simpa using hr))⟩
  by_cases h3 : k = 3
  · subst h3
    exact ⟨_, _, _, _, _, _, _, _, ⟨cl.1, cl.2.1, cl.2.2.1, cl.2.2.2.1, Nat.lt_of_le_of_lt Nat.and_le_left cl.2.2.2.2.1, cl.2.2.2.2.2⟩, fun h => ⟨free_valid h, within_less _ _ _ _⟩, fun W => chg_3 cC cE cB cT cP cY cR cV bC bE bB bT bP bY bR bV _ _ _ _ _ _ _ _ n W (fun W => and_any cC cE cB cT cP cY cR cV n W cl hn)⟩
  by_cases h4 : k = 4
  · subst h4
    by_cases hf : freeN cY cV = true
    · by_cases ho : overN bC bP bY bV 32 (decN bE bB bT bC).1 (decN bE bB bT bC).2 = true
      · have ht := (overN_le ho).1
        exact ⟨_, _, _, _, _, _, _, _, ⟨cl.1, cl.2.1, cl.2.2.1, cl.2.2.2.1, cl.2.2.2.2.1, by omega, cl.2.2.2.2.2.2⟩, fun h => ⟨h, within_refl _ _ _⟩, fun W => chg_4 cC cE cB cT cP cY cR cV bC bE bB bT bP bY bR bV _ _ _ _ _ _ _ _ n W (fun W => seal_y cC cE cB cT cP cY cR cV bC bE bB bT bP bY bR bV _ _ W bl rfl rfl hf ho)⟩
      · exact ⟨_, _, _, _, _, _, _, false, cl, fun h => Bool.noConfusion h, fun W => chg_4 cC cE cB cT cP cY cR cV bC bE bB bT bP bY bR bV _ _ _ _ _ _ _ _ n W (fun W => seal_o cC cE cB cT cP cY cR cV bC bE bB bT bP bY bR bV _ _ W bl rfl rfl hf (by simpa using ho))⟩
    · exact ⟨_, _, _, _, _, _, _, false, cl, fun h => Bool.noConfusion h, fun W => chg_4 cC cE cB cT cP cY cR cV bC bE bB bT bP bY bR bV _ _ _ _ _ _ _ _ n W (fun W => seal_f cC cE cB cT cP cY cR cV bC bE bB bT bP bY bR bV W (by simpa using hf))⟩
  by_cases h5 : k = 5
  · subst h5
    cases cV with
    | false => exact ⟨_, _, _, _, _, _, _, false, cl, fun h => Bool.noConfusion h, fun W => chg_5 cC cE cB cT cP cY cR false bC bE bB bT bP bY bR bV _ _ _ _ _ _ _ _ n W (fun W => open_v cC cE cB cT cP cY cR bC bE bB bT bP bY bR bV W)⟩
    | true =>
      by_cases hy : cY = 0
      · have d : ((cY : Int) == 0) = true := by rw [hy]; rfl
        exact ⟨_, _, _, _, _, _, _, false, cl, fun h => Bool.noConfusion h, fun W => chg_5 cC cE cB cT cP cY cR true bC bE bB bT bP bY bR bV _ _ _ _ _ _ _ _ n W (fun W => open_t cC cE cB cT cP cY cR bC bE bB bT bP bY bR bV W d)⟩
      · have d : ((cY : Int) == 0) = false := by simp; omega
        by_cases ho : overN bC bP bY bV 64 (decN bE bB bT bC).1 (decN bE bB bT bC).2 = true
        · by_cases he : bC = cY
          · exact ⟨_, _, _, _, _, 0, _, true, ⟨cl.1, cl.2.1, cl.2.2.1, cl.2.2.2.1, cl.2.2.2.2.1, by omega, cl.2.2.2.2.2.2⟩, fun _ => ⟨rfl, within_refl _ _ _⟩, fun W => chg_5 cC cE cB cT cP cY cR true bC bE bB bT bP bY bR bV _ _ _ _ _ _ _ _ n W (fun W => open_y cC cE cB cT cP cY cR bC bE bB bT bP bY bR bV _ _ W bl rfl rfl d ho (by simp; omega) (by simp; omega) cl.2.2.2.2.2.1)⟩
          · exact ⟨_, _, _, _, _, _, _, false, cl, fun h => Bool.noConfusion h, fun W => chg_5 cC cE cB cT cP cY cR true bC bE bB bT bP bY bR bV _ _ _ _ _ _ _ _ n W (fun W => open_n cC cE cB cT cP cY cR bC bE bB bT bP bY bR bV _ _ W bl rfl rfl d ho (by simp; omega) (by simp; omega) cl.2.2.2.2.2.1)⟩
        · exact ⟨_, _, _, _, _, _, _, false, cl, fun h => Bool.noConfusion h, fun W => chg_5 cC cE cB cT cP cY cR true bC bE bB bT bP bY bR bV _ _ _ _ _ _ _ _ n W (fun W => open_o cC cE cB cT cP cY cR bC bE bB bT bP bY bR bV _ _ W bl rfl rfl d (by simpa using ho))⟩
  by_cases h6 : k = 6
  · subst h6
    refine ⟨_, _, _, _, _, _, _, _, bl, fun h => ?_, fun W => chg_6 cC cE cB cT cP cY cR cV bC bE bB bT bP bY bR bV _ _ _ _ _ _ _ _ n W (fun W => build_any bC bE bB bT bP bY bR bV cC cE cB cT cP cY cR cV _ _ _ _ W bl cl rfl rfl rfl rfl)⟩
    rw [Bool.and_eq_true] at h
    refine ⟨free_valid h.1, ?_⟩
    have h2 := h.2
    simp only [bldB, Bool.and_eq_true] at h2
    exact h2.2.2
  exact ⟨_, _, _, _, _, _, _, false, cl, fun h => Bool.noConfusion h, fun W => chg_d cC cE cB cT cP cY cR cV bC bE bB bT bP bY bR bV _ _ _ _ _ _ _ _ n k (by simpa using h0) (by simpa using h1) (by simpa using h2) (by simpa using h3) (by simpa using h4) (by simpa using h5) (by simpa using h6) W (fun W => clear_any cC cE cB cT cP cY cR cV W)⟩
end Go.Proofs.Ytljchnfofjmleaa
