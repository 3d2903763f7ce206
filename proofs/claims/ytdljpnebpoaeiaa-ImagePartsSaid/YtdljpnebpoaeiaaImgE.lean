/-
  Chapter 21: contracts as a base: bounds padded, encoded; nothing of this.
-/
import Derived.Test.YtdljpnebpoaeiaaImgC
import Derived.Test.YtdljpnebpoaeiaaBndC
import Derived.Test.YtdljpnebpoaeiaaBndRef2
namespace Go.Proofs.Ytdljpnebpoaeiaa
open Go.RowKit
open Sy

def boolsOf (l : List Value) : List Bool := l.map boolOf'
def selNone : SelC := fun f args s => bif Nat.beq f 23 then
  match args with
  | [.slice (some a) _ cap] => (Sy.look s.h a.block).map fun k => (noneC (boolsOf k.cells) cap, [a.block], Nat.blt cap big = true ∧ (boolsOf k.cells).length < 9000000000000000000)
  | _ => none
  else none
theorem selNone_ok : SelOk Try.prog 3 selNone := by
  intro f args s c ρ q h hq
  unfold selNone at h
  obtain ⟨h1, h⟩ := bif_some h
  have h1 := Nat.eq_of_beq_eq_true h1
  subst h1
  split at h
  · obtain ⟨k, _, h⟩ := Option.map_eq_some_iff.1 h
    simp only [Prod.mk.injEq] at h
    obtain ⟨rfl, rfl, rfl⟩ := h
    exact none_ok _ _ hq.1 hq.2
  · cases h
def inU32 (x : Int) : Prop := 0 ≤ x ∧ x < 4294967296
def inU64 (x : Int) : Prop := 0 ≤ x ∧ x < 18446744073709551616
def padC (x : Int) : Con := Con.pure [.int .u32 x] (.tuple ⟨[.int .u32 (padN x.toNat : Nat), .int .u32 (padA x.toNat : Nat)]⟩)
def encC (b t : Int) : Con := Con.pure [.int .u32 b, .int .u64 t] (.tuple ⟨[.int .u8 (encE b.toNat t.toNat : Nat), .int .u16 (encB b.toNat t.toNat : Nat), .int .u16 (encT b.toNat t.toNat : Nat), .bool (encX b.toNat t.toNat), .bool (rightN b.toNat t.toNat)]⟩)
def selBnd : SelC := fun f args _ =>
  match args with
  | [.int _ x] => bif Nat.beq f 65 then some (padC x, [], inU32 x) else bif Nat.beq f 66 then some (padC x, [], inU32 x) else none
  | [.int _ b, .int _ t] => bif Nat.beq f 28 then some (encC b t, [], inU32 b ∧ inU64 t) else bif Nat.beq f 58 then some (encC b t, [], inU32 b ∧ inU64 t) else none
  | _ => none
theorem below_n {w w' : World} (h : ∃ m, w' = w.drewN m) : Below w.heap.size w w' := by
  obtain ⟨m, rfl⟩ := h
  exact below_drewN (Below.refl _ _) m
theorem padC_ok {f : FuncId} (he : Enters Try.prog f) (h : ∀ (s : Nat) (w : World), s < 4294967296 → Calls Try.prog f #[.int .u32 s] w fun e' w' => e' = .returned (.tuple #[.int .u32 (padN s), .int .u32 (padA s)]) ∧ ∃ m, w' = w.drewN m) (x : Int) (hx : inU32 x) : ConOk Try.prog f 3 (padC x) := by
  refine conOk_pure he (fun u hu => ?_) rfl fun w => ?_
  · obtain rfl := List.mem_singleton.1 hu; rfl
  · have := h x.toNat w (by have := hx.1; have := hx.2; omega)
    rw [show ((x.toNat : Nat) : Int) = x from Int.toNat_of_nonneg hx.1] at this
    exact this.mono fun _ _ ⟨a, b⟩ => ⟨a, below_n b⟩
theorem encC_ok {f : FuncId} (he : Enters Try.prog f) (h : ∀ (b t : Nat) (w : World), b < 4294967296 → t < 18446744073709551616 → Calls Try.prog f #[.int .u32 b, .int .u64 t] w fun e' w' => e' = .returned (.tuple #[.int .u8 (encE b t), .int .u16 (encB b t), .int .u16 (encT b t), .bool (encX b t), .bool (rightN b t)]) ∧ ∃ m, w' = w.drewN m)
    (b t : Int) (hb : inU32 b) (ht : inU64 t) : ConOk Try.prog f 3 (encC b t) := by
  refine conOk_pure he (fun u hu => ?_) rfl fun w => ?_
  · rcases List.mem_cons.1 hu with rfl | hu
    · rfl
    · obtain rfl := List.mem_singleton.1 hu; rfl
  · have := h b.toNat t.toNat w (by have := hb.1; have := hb.2; omega) (by have := ht.1; have := ht.2; omega)
    rw [show ((b.toNat : Nat) : Int) = b from Int.toNat_of_nonneg hb.1, show ((t.toNat : Nat) : Int) = t from Int.toNat_of_nonneg ht.1] at this
    exact this.mono fun _ _ ⟨a, b⟩ => ⟨a, below_n b⟩
theorem selBnd_ok : SelOk Try.prog 3 selBnd := by
  intro f args s c ρ q h hq
  unfold selBnd at h
  split at h
  · rename_i k x
    cases h1 : Nat.beq f 65 <;> rw [h1] at h
    · simp only [cond_false] at h
      obtain ⟨h2, h⟩ := bif_some h
      have h2 := Nat.eq_of_beq_eq_true h2
      subst h2
      cases h
      exact padC_ok (enters_b i_names (by kernel_rfl)) (fun s w hs => rpad_any s w hs) x hq
    · cases h
      have h1 := Nat.eq_of_beq_eq_true h1
      subst h1
      exact padC_ok (enters_b i_names (by kernel_rfl)) (fun s w hs => pad_any s w hs) x hq
  · rename_i k b k' t
    cases h1 : Nat.beq f 28 <;> rw [h1] at h
    · simp only [cond_false] at h
      obtain ⟨h2, h⟩ := bif_some h
      have h2 := Nat.eq_of_beq_eq_true h2
      subst h2
      cases h
      exact encC_ok (enters_b i_names (by kernel_rfl)) (fun b t w hb ht => rencode_any b t w hb ht) b t hq.1 hq.2
    · cases h
      have h1 := Nat.eq_of_beq_eq_true h1
      subst h1
      exact encC_ok (enters_b i_names (by kernel_rfl)) (fun b t w hb ht => encode_any b t w hb ht) b t hq.1 hq.2
  · cases h
def selI : SelC := selOr selNone selBnd
theorem selI_ok : SelOk Try.prog 3 selI := selOr_ok selNone_ok selBnd_ok
end Go.Proofs.Ytdljpnebpoaeiaa
