/-
  A slice of places that came in, opened; numbers that the laws of layer 1 say of it.
-/
import Derived.Test.YtopfbiecdoemcaaFrame
import Derived.Test.YtopfbiecdoemcaaRecs
namespace Go.Proofs.Ytopfbiecdoemcaa
open Go.ChangeShapes Go.WideShapes Go.ChangeAt Go.RowKit

/-- n places lie where A says. -/
def Plc (w : World) (A : Option Addr) (n : Nat) (at_ wd_ : Nat → Int) (vv : Nat → Nat) : Prop :=
  n = 0 ∨ ∃ g off, A = some ⟨g, off, none⟩ ∧ g < w.heap.size ∧ ∀ i, i < n →
    w.cell? ⟨g, off + i * 3, none⟩ = some (.int .i64 (at_ i)) ∧ w.cell? ⟨g, off + i * 3 + 1, none⟩ = some (.int .i64 (wd_ i)) ∧ w.cell? ⟨g, off + i * 3 + 2, none⟩ = some (.int .u32 (vv i))

theorem choose3 {n : Nat} {p : Nat → Int → Int → Nat → Prop} (h : ∀ i, i < n → ∃ a b c, p i a b c) : ∃ (f g : Nat → Int) (k : Nat → Nat), ∀ i, i < n → p i (f i) (g i) (k i) := by
  obtain ⟨F, hF⟩ := Go.Deep.choose_lt (α := Int × Int × Nat) (p := fun i x => p i x.1 x.2.1 x.2.2) (n := n) (fun i hi => by
    obtain ⟨a, b, c, hp⟩ := h i hi
    exact ⟨(a, b, c), hp⟩)
  exact ⟨fun i => (F i).1, fun i => (F i).2.1, fun i => (F i).2.2, hF⟩

section
variable {H : Type} {enc : TypeId × Value → H} {w : World} {base : Nat} {spare : Nat → Bool} {held : Bool}
theorem open_places {v : Value} {d : DataW H} {p : List MemPlace} {b0 : Nat} (hv : Value.okWide Try.prog w .any b0 37 v) (h : DataW.Trod enc Try.prog w base spare held 37 v d p) :
    ∃ (A : Option Addr) (n cap : Nat) (at_ wd_ : Nat → Int) (vv : Nat → Nat), v = .slice A n cap ∧ n ≤ cap ∧ cap ≤ maxLen ∧ Plc w A n at_ wd_ vv ∧
      ∀ i, i < n → (-9223372036854775808 ≤ at_ i ∧ at_ i ≤ 9223372036854775807) ∧ (-9223372036854775808 ≤ wd_ i ∧ wd_ i ≤ 9223372036854775807) ∧ vv i < 4294967296 := by
  obtain ⟨A, n, cap, rfl, hl, hm, hq⟩ := open_recs Try.underlying37 Try.underlying32 (by kernel_rfl) (by kernel_rfl) (by decide) hv h
  rcases hq with rfl | ⟨g, off, rfl, hg, hi⟩
  · exact ⟨A, 0, cap, fun _ => 0, fun _ => 0, fun _ => 0, rfl, hl, hm, .inl rfl, fun i hi => absurd hi (by omega)⟩
  · obtain ⟨f, k, c, hf⟩ := choose3 (n := n) (p := fun i a b c => (w.cell? ⟨g, off + i * 3, none⟩ = some (.int .i64 a) ∧ w.cell? ⟨g, off + i * 3 + 1, none⟩ = some (.int .i64 b) ∧ w.cell? ⟨g, off + i * 3 + 2, none⟩ = some (.int .u32 (c : Nat))) ∧
        (-9223372036854775808 ≤ a ∧ a ≤ 9223372036854775807) ∧ (-9223372036854775808 ≤ b ∧ b ≤ 9223372036854775807) ∧ c < 4294967296) (fun i hin => by
      obtain ⟨u0, y0, n0, hc0, ht0⟩ := hi i hin 0 _ rfl
      obtain ⟨u1, y1, n1, hc1, ht1⟩ := hi i hin 1 _ rfl
      obtain ⟨u2, y2, n2, hc2, ht2⟩ := hi i hin 2 _ rfl
      obtain ⟨a, e0, _, w0⟩ := DataW.trod_int Try.underlying3 ht0
      obtain ⟨b, e1, _, w1⟩ := DataW.trod_int Try.underlying3 ht1
      obtain ⟨c, e2, _, w2⟩ := DataW.trod_int Try.underlying22 ht2
      simp at e0 e1 e2
      subst e0 e1 e2
      have h2 := wf_u32 w2
      obtain ⟨c, rfl⟩ := Int.eq_ofNat_of_zero_le h2.1
      exact ⟨a, b, c, ⟨hc0, by rw [Nat.add_assoc]; exact hc1, by rw [Nat.add_assoc]; exact hc2⟩, wf_i64 w0, wf_i64 w1, by omega⟩)
    exact ⟨_, n, cap, f, k, c, rfl, hl, hm, .inr ⟨g, off, rfl, hg, fun i hin => (hf i hin).1⟩, fun i hin => (hf i hin).2⟩
end
end Go.Proofs.Ytopfbiecdoemcaa
