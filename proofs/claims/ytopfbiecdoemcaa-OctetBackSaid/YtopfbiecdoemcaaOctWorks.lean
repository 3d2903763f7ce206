/-
  Walk of works(): a number put and got.
-/
import Derived.Test.YtopfbiecdoemcaaOctSet
import Derived.Test.YtopfbiecdoemcaaOctRef
namespace Go.Proofs.Ytopfbiecdoemcaa
open Go.RowKit

theorem row_bytes {w : World} {g : Nat} {l : List UInt8} {B : Nat} (hg : g < B) (hc : ∀ j (hj : j < l.length), w.cell? ⟨g, j, none⟩ = some (.int .u8 (l[j].toNat : Int))) : Row w B (some ⟨g, 0, none⟩) (bytesV l) := by
  refine .inr ⟨g, 0, rfl, hg, fun j u hu => ?_⟩
  have hj : j < l.length := by
    rw [← bytesV_length]; exact (List.getElem?_eq_some_iff.1 hu).1
  rw [bytesV_get l j hj] at hu
  rw [Nat.zero_add, hc j hj]; exact hu

theorem works_any (w : World) : Calls Try.prog 12 #[] w fun e w' => e = .returned (.bool true) ∧ Below w.heap.size w w' := by
  go_enter Try.func12, Try.ntmps12
  go_wp2_with fail
  refine (put_any [120] 2 258 _ (by decide) (by simp)).mono ?_
  rintro e w1 ⟨rfl, hb1⟩
  have ep : putN [120] 2 258 = [120, 2, 1] := by decide
  rw [ep]
  obtain ⟨cap, w2, hcv, hc1, hc2, hb2, hs2, hcell, _⟩ := bytes_of (P := Try.prog) 9 28 5 Try.underlying9 Try.underlying28 Try.underlying5 w1 [120, 2, 1] (by decide)
  have hr := row_bytes (B := w2.heap.size) (by omega) hcell
  have HB : Hid (Below w.heap.size w w2) := hb1.trans (hb2.mono hb1.size)
  clear hcell hb2 hb1
  have HR := hide hr; clear hr
  have HS := hide hs2; clear hs2
  go_wp2_with fail
  refine (get_any w2.heap.size _ cap [120, 2, 1] 1 2 w2 HR.out hc1 hc2).mono ?_
  rintro e w3 ⟨rfl, m, rfl⟩
  have eg : gotN [120, 2, 1] 1 2 = 258 := by decide
  have eo : okAt [120, 2, (1 : UInt8)].length 1 2 = true := by decide
  rw [eg, eo]
  go_wp2
  go_ret
  exact ⟨rfl, below_drewN HB.out m⟩
end Go.Proofs.Ytopfbiecdoemcaa
