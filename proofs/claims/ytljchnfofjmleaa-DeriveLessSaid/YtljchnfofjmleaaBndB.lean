/-
  Walks of layer 3 (bounds): Decode, Keeps.
-/
import Derived.Test.YtljchnfofjmleaaBndA
import Derived.Laws.StructEq
import Derived.OwnWalk
namespace Go.Proofs.Ytljchnfofjmleaa
open Go.RowKit

/-- Two arrays of two integers, held against each other. -/
theorem run_equalIn_arr2 {P : Program} (d : Nat) (t e : TypeId) (i : TypeInfo) (k k' : IntKind) (ht : P.underlying t = some (.array 2 e)) (he : P.underlying e = some (.int k')) (hi : P.info? e = some i) (hsz : i.size = 1) (a b c f : Int) (w : World) :
    (Op.equalIn (d + 2) t (.agg #[.int k a, .int k b]) (.agg #[.int k c, .int k f])).run P w = .ok (a == c && b == f) w := by
  have hp1 : ∀ (x y : Value) W, (part e #[x, y] 0).run P W = .ok x W := fun x y W => by simp [part, isAgg, run_underlying he]
  have hp2 : ∀ (x y : Value) W, (part e #[x, y] 1).run P W = .ok y W := fun x y W => by simp [part, isAgg, run_underlying he]
  have he2 : ∀ (x y : Int) W, (Op.equalIn (d + 1) e (.int k x) (.int k y)).run P W = .ok (x == y) W := fun x y W => run_equalIn_int W d e k k' x y he
  unfold Op.equalIn
  simp only [Sem.run_bind, run_underlying ht, Result.andThen_ok, sizeOf, typeInfo, Std.Legacy.Range.forIn_eq_forIn_range', Std.Legacy.Range.size]
  simp [hi, hsz, List.range', hp1, hp2, he2]
  by_cases h1 : a = c <;> by_cases h2 : b = f <;> simp [h1, h2]
theorem i64_info : (Try.prog.info? 2).map (fun i => (i.zero, i.size, i.bytes)) = some (some (.int .i64 0), 1, 8) := by kernel_rfl

/-- What Decode answers. -/
def decN (e b t c : Nat) : Nat × Nat := if tellOk e b t c = true ∧ tellB e b t c ≠ 4294967296 then ((tellB e b t c).toNat, (tellT e b t c).toNat) else (0, 0)
def keepsN (e b t c n : Nat) : Bool := tellOk e b t c && decide (tellB e b t c = tellB e b t n) && decide (tellT e b t c = tellT e b t n)

theorem tellOk_true {e b t c : Nat} (h : tellOk e b t c = true) : 0 ≤ tellB e b t c ∧ tellB e b t c ≤ tellT e b t c ∧ tellT e b t c ≤ 4294967296 := by
  simp only [tellOk, Bool.and_eq_true, decide_eq_true_eq] at h
  exact ⟨h.1.1.2, h.1.2, h.2⟩

theorem decode_any (e b t c : Nat) (w : World) (he : e < 256) (hb : b < 65536) (ht : t < 65536) (hc : c < 4294967296) :
    Calls Try.prog 56 #[.int .u8 e, .int .u16 b, .int .u16 t, .int .u32 c] w fun e' w' => e' = .returned (.tuple #[.int .u32 (decN e b t c).1, .int .u64 (decN e b t c).2]) ∧ Below w.heap.size w w' := by
  have hta := fun W => tell_any e b t c W he hb ht hc
  by_cases h1 : tellOk e b t c = true
  · obtain ⟨k0, k1, k2⟩ := tellOk_true h1
    obtain ⟨B, hB⟩ : ∃ B : Nat, tellB e b t c = B := ⟨(tellB e b t c).toNat, by omega⟩
    obtain ⟨T, hT⟩ : ∃ T : Nat, tellT e b t c = T := ⟨(tellT e b t c).toNat, by omega⟩
    simp only [h1, hB, hT] at hta
    rw [hB, hT] at k1
    rw [hT] at k2
    by_cases h2 : (B : Int) = 4294967296
    · have hd : decN e b t c = (0, 0) := by unfold decN; rw [if_neg (by rw [hB]; exact fun h => h.2 h2)]
      rw [hd]
      have h3 : ((B : Int) == 4294967296) = true := by simpa using h2
      have HTA := hide hta
      clear hta h2 k0 k1 k2 h1 hB hT hd
      go_enter Try.func56, Try.ntmps56
      go_wp2_with (go_at_call 65; refine (HTA.out _).mono ?_; rintro e' w1 ⟨rfl, hb1⟩; have HB1 := hide hb1; clear hb1)
      go_ret2
      exact ⟨rfl, HB1.out.alloc HB1.out.size _⟩
    · have hd : decN e b t c = (B, T) := by unfold decN; rw [if_pos ⟨h1, by rw [hB]; exact h2⟩, hB, hT]; rfl
      rw [hd]
      have h3 : ((B : Int) == 4294967296) = false := by simpa using h2
      have HTA := hide hta
      have k3 : (B : Int) < 4294967296 := by omega
      clear hta h2 h1 hB hT hd
      go_enter Try.func56, Try.ntmps56
      go_wp2_with (go_at_call 65; refine (HTA.out _).mono ?_; rintro e' w1 ⟨rfl, hb1⟩; have HB1 := hide hb1; clear hb1)
      go_quiet (fail)
      go_wp2
      go_ret2
      exact ⟨rfl, below_drewN (HB1.out.alloc HB1.out.size _) _⟩
  · have h1' : tellOk e b t c = false := by simpa using h1
    have hd : decN e b t c = (0, 0) := by unfold decN; rw [if_neg (fun h => h1 h.1)]
    rw [hd]
    simp only [h1'] at hta
    have HTA := hide hta
    clear hta h1 h1' hd
    go_enter Try.func56, Try.ntmps56
    go_wp2_with (go_at_call 65; refine (HTA.out _).mono ?_; rintro e' w1 ⟨rfl, hb1⟩; have HB1 := hide hb1; clear hb1)
    go_ret2
    exact ⟨rfl, HB1.out.alloc HB1.out.size _⟩

theorem keeps_any (e b t c n : Nat) (w : World) (he : e < 256) (hb : b < 65536) (ht : t < 65536) (hc : c < 4294967296) (hn : n < 4294967296) :
    Calls Try.prog 48 #[.int .u8 e, .int .u16 b, .int .u16 t, .int .u32 c, .int .u32 n] w fun e' w' => e' = .returned (.bool (keepsN e b t c n)) ∧ Below w.heap.size w w' := by
  have hta := fun W => tell_any e b t c W he hb ht hc
  have htb := fun W => tell_any e b t n W he hb ht hn
  unfold keepsN
  obtain ⟨B, hB⟩ : ∃ B, tellB e b t c = B := ⟨_, rfl⟩
  obtain ⟨T, hT⟩ : ∃ T, tellT e b t c = T := ⟨_, rfl⟩
  obtain ⟨B', hB'⟩ : ∃ B, tellB e b t n = B := ⟨_, rfl⟩
  obtain ⟨T', hT'⟩ : ∃ T, tellT e b t n = T := ⟨_, rfl⟩
  obtain ⟨k, hk⟩ : ∃ k, tellOk e b t c = k := ⟨_, rfl⟩
  obtain ⟨k', hk'⟩ : ∃ k, tellOk e b t n = k := ⟨_, rfl⟩
  rw [hB, hT, hk] at hta
  rw [hB', hT', hk'] at htb
  rw [hB, hT, hB', hT', hk]
  have HTA := hide hta
  have HTB := hide htb
  obtain ⟨i0, hi, hz0, hz1, hz2⟩ := info_parts i64_info
  have heq := fun (x y : Int) W => run_equalIn_arr2 (P := Try.prog) 9998 68 2 i0 .i64 .i64 Try.underlying68 Try.underlying2 hi hz1 B T x y W
  clear hz0 hz1 hz2 hi
  clear hta htb hB hT hB' hT' hk hk'
  rcases k with _ | _
  · go_enter Try.func48, Try.ntmps48
    go_wp2_with fail
    refine (HTA.out _).mono ?_
    rintro e' w1 ⟨rfl, hb1⟩
    have HB1 := hide hb1; clear hb1
    go_wp2_with fail
    refine (HTB.out _).mono ?_
    rintro e' w2 ⟨rfl, hb2⟩
    have HB2 := hide hb2; clear hb2
    go_wp2
    go_ret
    exact ⟨rfl, (((HB1.out.alloc HB1.out.size _).trans (HB2.out.mono (by have := HB1.out.size; simp; omega))).alloc (by have := HB1.out.size; have := HB2.out.size; simp at this; omega) _)⟩
  · go_enter Try.func48, Try.ntmps48
    go_wp2_with fail
    refine (HTA.out _).mono ?_
    rintro e' w1 ⟨rfl, hb1⟩
    have HB1 := hide hb1; clear hb1
    go_wp2_with fail
    refine (HTB.out _).mono ?_
    rintro e' w2 ⟨rfl, hb2⟩
    have f0 : w2.cell? ⟨w1.heap.size, 0, none⟩ = some (.int .i64 B) := (hb2.cell (p := ⟨w1.heap.size, 0, none⟩) (by simp)).trans (cell_of_row _ _ 0 _ _ _ (heap_alloc_new w1 _))
    have f1 : w2.cell? ⟨w1.heap.size, 1, none⟩ = some (.int .i64 T) := (hb2.cell (p := ⟨w1.heap.size, 1, none⟩) (by simp)).trans (cell_of_row _ _ 1 _ _ _ (heap_alloc_new w1 _))
    have hs : w1.heap.size < w2.heap.size := by have := hb2.size; simp at this; omega
    have HB2 := hide hb2; clear hb2
    go_wp2
    go_ret
    refine ⟨ret_bool ?_, (((HB1.out.alloc HB1.out.size _).trans (HB2.out.mono (by have := HB1.out.size; simp; omega))).alloc (by have := HB1.out.size; have := HB2.out.size; simp at this; omega) _)⟩
    simp [Bool.beq_eq_decide_eq]
end Go.Proofs.Ytljchnfofjmleaa
