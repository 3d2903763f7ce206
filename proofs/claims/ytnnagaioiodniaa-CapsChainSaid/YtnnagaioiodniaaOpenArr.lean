/-
  Arrays of bytes by value, opened; nothing of the program's code.
-/
import Derived.Test.YtnnagaioiodniaaBase
import Derived.Test.YtnnagaioiodniaaFrame
import Derived.Deep.Slices
import Derived.OpenShut
import Derived.Lib.SmallJoins
namespace Go.Proofs.Ytnnagaioiodniaa
open Go.ChangeShapes Go.WideShapes Go.Deep Go.RowKit

section
variable {H : Type} {enc : TypeId × Value → H} {P : Program} {w : World} {base : Nat} {spare : Nat → Bool} {held : Bool}
theorem bytes_of_cells : ∀ (cs : List Value), (∀ u ∈ cs, ∃ a : Int, u = .int .u8 a ∧ 0 ≤ a ∧ a < 256) → ∃ l : List UInt8, cs = l.map fun b => Value.int .u8 (b.toNat : Nat)
  | [], _ => ⟨[], rfl⟩
  | u :: cs, h => by
    obtain ⟨l, rfl⟩ := bytes_of_cells cs fun v hv => h v (List.mem_cons_of_mem _ hv)
    obtain ⟨a, rfl, h0, h1⟩ := h u (List.mem_cons_self ..)
    refine ⟨UInt8.ofNat a.toNat :: l, ?_⟩
    rw [List.map_cons, UInt8.toNat_ofNat']
    congr 2
    omega
theorem open_bytes {r : Reach} {b0 n : Nat} {t e : TypeId} {v : Value} {d : DataW H} {p : List MemPlace} (hs : P.underlying t = some (.array n e)) (he : P.underlying e = some (.int .u8)) (hce : P.cellsOf e = 1) (hct : P.cellsOf t = n)
    (hv : Value.okWide P w r b0 t v) (h : DataW.Trod enc P w base spare held t v d p) : ∃ l : List UInt8, l.length = n ∧ v = .agg (l.map fun b => Value.int .u8 (b.toNat : Nat)).toArray := by
  have hv' : ∃ cs, v = .agg cs ∧ cs.size = P.cellsOf t := by
    simp only [Value.okWide, hs] at hv
    obtain ⟨cs, h1, h2, _⟩ := hv
    exact ⟨cs, h1, h2⟩
  obtain ⟨cs, rfl, hsz⟩ := hv'
  obtain ⟨cs⟩ := cs
  have hlen : cs.length = n := hsz.trans hct
  obtain ⟨fuel, hf⟩ := h
  obtain ⟨xs, m, _, _, _, hl, hg⟩ := DataW.trod_array hs hf
  have key : ∀ u ∈ cs, ∃ a : Int, u = .int .u8 a ∧ 0 ≤ a ∧ a < 256 := by
    intro u hu
    obtain ⟨j, hj, rfl⟩ := List.getElem_of_mem hu
    have h1 := hg j (by omega)
    rw [hce, Nat.mul_one] at h1
    have h2 : (cs.drop j).take 1 = [cs[j]] := by
      rw [List.drop_eq_getElem_cons hj]
      rfl
    have h3 : ((Value.agg ⟨cs⟩).cells.toList.drop j).take 1 = [cs[j]] := h2
    rw [h3] at h1
    obtain ⟨a, e1, _, w1⟩ := DataW.trod_int he (h1.trans (List.getElem?_eq_getElem (by omega)))
    refine ⟨a, by simpa using e1, ?_⟩
    have := wf_u8 w1
    omega
  obtain ⟨l, rfl⟩ := bytes_of_cells cs key
  exact ⟨l, by simpa using hlen, rfl⟩
end
end Go.Proofs.Ytnnagaioiodniaa
