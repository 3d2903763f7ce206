/-
  Walks of layer 3 (bounds): Decode, Keeps.
-/
import Derived.Test.YtnnagaioiodniaaBndA
import Derived.Laws.StructEq
import Derived.OwnWalk
namespace Go.Proofs.Ytnnagaioiodniaa
open Go.RowKit

/-- Two arrays of two integers, held against each other. -/
theorem run_equalIn_arr2 {P : Program} (d : Nat) (t e : TypeId) (i : TypeInfo) (k k' : IntKind) (ht : P.underlying t = some (.array 2 e)) (he : P.underlying e = some (.int k')) (hi : P.info? e = some i) (hsz : i.size = 1) (a b c f : Int) (w : World) :
    (Op.equalIn (d + 2) t (.agg #[.int k a, .int k b]) (.agg #[.int k c, .int k f])).run P w = .ok (a == c && b == f) w := by
  have hp1 : ∀ (x y : Value) W, (part e #[x, y] 0).run P W = .ok x W := fun x y W => by simp [part, isAgg, run_underlying he]
  have hp2 : ∀ (x y : Value) W, (part e #[x, y] 1).run P W = .ok y W := fun x y W => by simp [part, isAgg, run_underlying he]
  have he2 : ∀ (x y : Int) W, (Op.equalIn (d + 1) e (.int k x) (.int k y)).run P W = .ok (x == y) W := fun x y W => run_equalIn_int W d e k k' x y he
  unfold Op.equalIn
  simp only [Sem.run_bind, run_underlying ht, Result.andThen_ok, sizeOf, typeInfo, Std.Legacy.Range.forIn_eq_forIn_range', Std.Legacy.Range.size]
  simp [hi, hsz, List.range', hp1, hp2, he2]
  by_cases h1 : a = c <;> by_cases h2 : b = f <;> simp [h1, h2]
theorem i64_info : (Try.prog.info? 2).map (fun i => (i.zero, i.size, i.bytes)) = some (some (.int .i64 0), 1, 8) := by kernel_rfl

/-- What Decode answers. -/
def decN (e b t c : Nat) : Nat × Nat := if tellOk e b t c = true ∧ tellB e b t c ≠ 4294967296 then ((tellB e b t c).toNat, (tellT e b t c).toNat) else (0, 0)
def keepsN (e b t c n : Nat) : Bool := tellOk e b t c && decide (tellB e b t c = tellB e b t n) && decide (tellT e b t c = tellT e b t n)

theorem tellOk_true {e b t c : Nat} (h : tellOk e b t c = true) : 0 ≤ tellB e b t c ∧ tellB e b t c ≤ tellT e b t c ∧ tellT e b t c ≤ 4294967296 := by
  simp only [tellOk, Bool.and_eq_true, decide_eq_true_eq] at h
  exact ⟨h.1.1.2, h.1.2, h.2⟩

theorem decode_any (e b t c : Nat) (w : World) (he : e < 256) (hb : b < 65536) (ht : t < 65536) (hc : c < 4294967296) :
    Calls Try.prog 33 #[.int .u8 e, .int .u16 b, .int .u16 t, .int .u32 c] w fun e' w' => e' = .returned (.tuple #[.int .u32 (decN e b t c).1, .int .u64 (decN e b t c).2]) ∧ Below w.heap.size w w' := by
  have hta := fun W => tell_any e b t c W he hb ht hc
  by_cases h1 : tellOk e b t c = true
  · obtain ⟨k0, k1, k2⟩ := tellOk_true h1
    obtain ⟨B, hB⟩ : ∃ B : Nat, tellB e b t c = B := ⟨(tellB e b t c).toNat, by omega⟩
    obtain ⟨T, hT⟩ : ∃ T : Nat, tellT e b t c = T := ⟨(tellT e b t c).toNat, by omega⟩
    simp only [h1, hB, hT] at hta
    rw [hB, hT] at k1
    rw [hT] at k2
    by_cases h2 : (B : Int) = 4294967296
    · have hd : decN e b t c = (0, 0) := by unfold decN; rw [if_neg (by rw [hB]; exact fun h => h.2 h2)]
      rw [hd]
      have h3 : ((B : Int) == 4294967296) = true := by simpa using h2
      have HTA := hide hta
      clear hta h2 k0 k1 k2 h1 hB hT hd
      go_enter Try.func33, Try.ntmps33
      go_wp2_with (go_at_call 45; refine (HTA.out _).mono ?_; rintro e' w1 ⟨rfl, hb1⟩; have HB1 := hide hb1; clear hb1)
      go_ret2
      exact ⟨rfl, HB1.out.alloc HB1.out.size _⟩
    · have hd : decN e b t c = (B, T) := by unfold decN; rw [if_pos ⟨h1, by rw [hB]; exact h2⟩, hB, hT]; rfl
      rw [hd]
      have h3 : ((B : Int) == 4294967296) = false := by simpa using h2
      have HTA := hide hta
      have k3 : (B : Int) < 4294967296 := by omega
      clear hta h2 h1 hB hT hd
      go_enter Try.func33, Try.ntmps33
      go_wp2_with (go_at_call 45; refine (HTA.out _).mono ?_; rintro e' w1 ⟨rfl, hb1⟩; have HB1 := hide hb1; clear hb1)
      go_quiet (fail)
      go_wp2
      go_ret2
      exact ⟨rfl, below_drewN (HB1.out.alloc HB1.out.size _) _⟩
  · have h1' : tellOk e b t c = false := by simpa using h1
    have hd : decN e b t c = (0, 0) := by unfold decN; rw [if_neg (fun h => h1 h.1)]
    rw [hd]
    simp only [h1'] at hta
    have HTA := hide hta
    clear hta h1 h1' hd
    go_enter Try.func33, Try.ntmps33
    go_wp2_with (go_at_call 45; refine (HTA.out _).mono ?_; rintro e' w1 ⟨rfl, hb1⟩; have HB1 := hide hb1; clear hb1)
    go_ret2
    exact ⟨rfl, HB1.out.alloc HB1.out.size _⟩

end Go.Proofs.Ytnnagaioiodniaa
