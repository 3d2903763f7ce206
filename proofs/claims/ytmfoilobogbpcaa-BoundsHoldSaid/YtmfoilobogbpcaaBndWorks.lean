/-
  Walk of works() of layer 3.
-/
import Derived.Test.YtmfoilobogbpcaaBndRef2
namespace Go.Proofs.Ytmfoilobogbpcaa
open Go.RowKit

theorem bworks_any (w : World) : Calls Try.prog 15 #[] w fun e w' => e = .returned (.bool true) ∧ Below w.heap.size w w' := by
  have he := fun W => encode_any 4096 4100 W (by omega) (by omega)
  rw [show encE 4096 4100 = 0 by decide, show encB 4096 4100 = 0 by decide, show encT 4096 4100 = 4 by decide, show encX 4096 4100 = true by decide, show rightN 4096 4100 = true by decide] at he
  have hd := fun W => decode_any 0 0 4 4098 W (by omega) (by omega) (by omega) (by omega)
  rw [show decN 0 0 4 4098 = (4096, 4100) by decide] at hd
  go_enter Try.func15, Try.ntmps15
  go_wp2_with fail
  refine (he _).mono ?_
  rintro e w1 ⟨rfl, m, rfl⟩
  go_wp2_with fail
  refine (hd _).mono ?_
  rintro e w2 ⟨rfl, hb2⟩
  have HB := hide hb2; clear hb2
  go_wp2
  go_ret
  exact ⟨rfl, below_of_drewN HB.out⟩
end Go.Proofs.Ytmfoilobogbpcaa
