/-
  Chapter 04's Range, Holds, Meets, Within, as contracts for the machine's paths.
-/
import Derived.Test.YtnnagaioiodniaaCapSym
import Derived.Test.YtnnagaioiodniaaCapB
namespace Go.Proofs.Ytnnagaioiodniaa
open Go.RowKit

def rLo (c e b t : Int) : Int := ((decN e.toNat b.toNat t.toNat c.toNat).1 : Nat)
def rHi (c e b t : Int) : Int := ((decN e.toNat b.toNat t.toNat c.toNat).2 : Nat)
def hld (c e b t a s : Int) : Bool := holdsN (decN e.toNat b.toNat t.toNat c.toNat).1 (decN e.toNat b.toNat t.toNat c.toNat).2 a.toNat s.toNat
def met (c e b t a s : Int) : Bool := meetsN (decN e.toNat b.toNat t.toNat c.toNat).1 (decN e.toNat b.toNat t.toNat c.toNat).2 a.toNat s.toNat
def wth (c e b t p c' e' b' t' p' : Int) : Bool := withinN p.toNat p'.toNat (decN e.toNat b.toNat t.toNat c.toNat).1 (decN e.toNat b.toNat t.toNat c.toNat).2 (decN e'.toNat b'.toNat t'.toNat c'.toNat).1 (decN e'.toNat b'.toNat t'.toNat c'.toNat).2
/-- A capability's fields, within their kinds. -/
def capI (c e b t p y r : Int) : Prop := (0 ≤ c ∧ c < 4294967296) ∧ (0 ≤ e ∧ e < 256) ∧ (0 ≤ b ∧ b < 65536) ∧ (0 ≤ t ∧ t < 65536) ∧ (0 ≤ p ∧ p < 65536) ∧ (0 ≤ y ∧ y < 65536) ∧ (0 ≤ r ∧ r < 4294967296)
theorem capI_nat {c e b t p y r : Int} (h : capI c e b t p y r) : ∃ cC cE cB cT cP cY cR : Nat, c = cC ∧ e = cE ∧ b = cB ∧ t = cT ∧ p = cP ∧ y = cY ∧ r = cR ∧ capB cC cE cB cT cP cY cR := by
  obtain ⟨hc, he, hb, ht, hp, hy, hr⟩ := h
  refine ⟨c.toNat, e.toNat, b.toNat, t.toNat, p.toNat, y.toNat, r.toNat, by omega, by omega, by omega, by omega, by omega, by omega, by omega, ?_⟩
  refine ⟨?_, ?_, ?_, ?_, ?_, ?_, ?_⟩ <;> omega
theorem flatCap (c e b t p y r : Int) (v : Bool) : Eng.flat2 (.agg #[.int .u32 c, .int .u8 e, .int .u16 b, .int .u16 t, .int .u16 p, .int .u16 y, .int .u32 r, .bool v]) = true := rfl
theorem two_in {u v w : Value} (h : Eng.flat2 v = true) (h' : Eng.flat2 w = true) (hu : u ∈ [v, w]) : Eng.flat2 u = true := by
  rcases List.mem_cons.1 hu with rfl | hu
  · exact h
  · exact one_flat h' hu
theorem enters12 : Eng.Enters Try.prog 12 := Eng.enters_of sym_names Try.func12 rfl
theorem enters14 : Eng.Enters Try.prog 14 := Eng.enters_of sym_names Try.func14 rfl
theorem enters16 : Eng.Enters Try.prog 16 := Eng.enters_of sym_names Try.func16 rfl
theorem enters21 : Eng.Enters Try.prog 21 := Eng.enters_of sym_names Try.func21 rfl
theorem range12 {c e b t p y r : Int} (v : Bool) (h : capI c e b t p y r) : Eng.Pure Try.prog 12 [.agg ⟨[.int .u32 c, .int .u8 e, .int .u16 b, .int .u16 t, .int .u16 p, .int .u16 y, .int .u32 r, .bool v]⟩] (.tuple ⟨[.int .u32 (rLo c e b t), .int .u64 (rHi c e b t)]⟩) := by
  obtain ⟨cC, cE, cB, cT, cP, cY, cR, rfl, rfl, rfl, rfl, rfl, rfl, rfl, hb⟩ := capI_nat h
  exact ⟨enters12, fun _ hu => one_flat rfl hu, rfl, fun w => range_any cC cE cB cT cP cY cR v w hb⟩
theorem holds14 {c e b t p y r a s : Int} (v : Bool) (h : capI c e b t p y r) (ha : 0 ≤ a ∧ a < 4294967296) (hs : 0 ≤ s ∧ s < 4294967296) : Eng.Pure Try.prog 14 [.agg ⟨[.int .u32 c, .int .u8 e, .int .u16 b, .int .u16 t, .int .u16 p, .int .u16 y, .int .u32 r, .bool v]⟩, .agg ⟨[.int .u32 a, .int .u32 s]⟩] (.bool (hld c e b t a s)) := by
  obtain ⟨cC, cE, cB, cT, cP, cY, cR, rfl, rfl, rfl, rfl, rfl, rfl, rfl, hb⟩ := capI_nat h
  obtain ⟨a, rfl⟩ := Int.eq_ofNat_of_zero_le ha.1
  obtain ⟨s, rfl⟩ := Int.eq_ofNat_of_zero_le hs.1
  exact ⟨enters14, fun _ hu => two_in rfl rfl hu, rfl, fun w => holds_any cC cE cB cT cP cY cR v a s _ _ w hb (by omega) (by omega) rfl rfl⟩
theorem meets16 {c e b t p y r a s : Int} (v : Bool) (h : capI c e b t p y r) (ha : 0 ≤ a ∧ a < 4294967296) (hs : 0 ≤ s ∧ s < 4294967296) : Eng.Pure Try.prog 16 [.agg ⟨[.int .u32 c, .int .u8 e, .int .u16 b, .int .u16 t, .int .u16 p, .int .u16 y, .int .u32 r, .bool v]⟩, .agg ⟨[.int .u32 a, .int .u32 s]⟩] (.bool (met c e b t a s)) := by
  obtain ⟨cC, cE, cB, cT, cP, cY, cR, rfl, rfl, rfl, rfl, rfl, rfl, rfl, hb⟩ := capI_nat h
  obtain ⟨a, rfl⟩ := Int.eq_ofNat_of_zero_le ha.1
  obtain ⟨s, rfl⟩ := Int.eq_ofNat_of_zero_le hs.1
  exact ⟨enters16, fun _ hu => two_in rfl rfl hu, rfl, fun w => meets_any cC cE cB cT cP cY cR v a s _ _ w hb (by omega) (by omega) rfl rfl⟩
theorem within21 {c e b t p y r c' e' b' t' p' y' r' : Int} (v v' : Bool) (h : capI c e b t p y r) (h' : capI c' e' b' t' p' y' r') : Eng.Pure Try.prog 21 [.agg ⟨[.int .u32 c, .int .u8 e, .int .u16 b, .int .u16 t, .int .u16 p, .int .u16 y, .int .u32 r, .bool v]⟩, .agg ⟨[.int .u32 c', .int .u8 e', .int .u16 b', .int .u16 t', .int .u16 p', .int .u16 y', .int .u32 r', .bool v']⟩] (.bool (wth c e b t p c' e' b' t' p')) := by
  obtain ⟨cC, cE, cB, cT, cP, cY, cR, rfl, rfl, rfl, rfl, rfl, rfl, rfl, hb⟩ := capI_nat h
  obtain ⟨dC, dE, dB, dT, dP, dY, dR, rfl, rfl, rfl, rfl, rfl, rfl, rfl, hd⟩ := capI_nat h'
  exact ⟨enters21, fun _ hu => two_in rfl rfl hu, rfl, fun w => within_any cC cE cB cT cP cY cR v dC dE dB dT dP dY dR v' _ _ _ _ w hb hd rfl rfl rfl rfl⟩
def chAns : Eng.Ans := fun f args =>
  bif Nat.beq f 12 then match args with
    | [.agg ⟨[.int .u32 c, .int .u8 e, .int .u16 b, .int .u16 t, .int .u16 p, .int .u16 y, .int .u32 r, .bool _]⟩] => some (.tuple ⟨[.int .u32 (rLo c e b t), .int .u64 (rHi c e b t)]⟩, capI c e b t p y r)
    | _ => none
  else bif Nat.beq f 14 then match args with
    | [.agg ⟨[.int .u32 c, .int .u8 e, .int .u16 b, .int .u16 t, .int .u16 p, .int .u16 y, .int .u32 r, .bool _]⟩, .agg ⟨[.int .u32 a, .int .u32 s]⟩] => some (.bool (hld c e b t a s), capI c e b t p y r ∧ (0 ≤ a ∧ a < 4294967296) ∧ (0 ≤ s ∧ s < 4294967296))
    | _ => none
  else bif Nat.beq f 16 then match args with
    | [.agg ⟨[.int .u32 c, .int .u8 e, .int .u16 b, .int .u16 t, .int .u16 p, .int .u16 y, .int .u32 r, .bool _]⟩, .agg ⟨[.int .u32 a, .int .u32 s]⟩] => some (.bool (met c e b t a s), capI c e b t p y r ∧ (0 ≤ a ∧ a < 4294967296) ∧ (0 ≤ s ∧ s < 4294967296))
    | _ => none
  else bif Nat.beq f 21 then match args with
    | [.agg ⟨[.int .u32 c, .int .u8 e, .int .u16 b, .int .u16 t, .int .u16 p, .int .u16 y, .int .u32 r, .bool _]⟩, .agg ⟨[.int .u32 c', .int .u8 e', .int .u16 b', .int .u16 t', .int .u16 p', .int .u16 y', .int .u32 r', .bool _]⟩] => some (.bool (wth c e b t p c' e' b' t' p'), capI c e b t p y r ∧ capI c' e' b' t' p' y' r')
    | _ => none
  else capAns f args
theorem chAns_ok : Eng.AnsOk Try.prog chAns := by
  intro f args w q h hq
  unfold chAns at h
  cases h1 : Nat.beq f 12
  · rw [h1] at h
    cases h2 : Nat.beq f 14
    · rw [h2] at h
      cases h3 : Nat.beq f 16
      · rw [h3] at h
        cases h4 : Nat.beq f 21
        · rw [h4] at h
          exact capAns_ok f args w q h hq
        · rw [h4] at h
          simp only [cond_true, cond_false] at h
          split at h
          · cases h
            rw [Nat.eq_of_beq_eq_true h4]
            exact within21 _ _ hq.1 hq.2
          · cases h
      · rw [h3] at h
        simp only [cond_true, cond_false] at h
        split at h
        · cases h
          rw [Nat.eq_of_beq_eq_true h3]
          exact meets16 _ hq.1 hq.2.1 hq.2.2
        · cases h
    · rw [h2] at h
      simp only [cond_true, cond_false] at h
      split at h
      · cases h
        rw [Nat.eq_of_beq_eq_true h2]
        exact holds14 _ hq.1 hq.2.1 hq.2.2
      · cases h
  · rw [h1] at h
    simp only [cond_true] at h
    split at h
    · cases h
      rw [Nat.eq_of_beq_eq_true h1]
      exact range12 _ hq
    · cases h
end Go.Proofs.Ytnnagaioiodniaa
