/-
  Walks of layer 3 (bounds): the closures of tell, and tell.
-/
import Derived.Test.YtdljpnebpoaeiaaProg
import Derived.Test.YtdljpnebpoaeiaaBase
import Derived.Test.YtdljpnebpoaeiaaBndNum
import Derived.WalkKit
import Derived.WalkSpells
import Derived.WalkLawsBesides
import Derived.Laws.EntriesVeiled
import Derived.Outline
import Derived.Deep.QuietTactic
import Derived.BigQuiet
import Derived.Deep.RegionHeld3
import Derived.Lib.Hide
import Derived.KernelRfl
namespace Go.Proofs.Ytdljpnebpoaeiaa
open Go.RowKit

theorem ret2_both {k k' : IntKind} {a b c d : Int} (h : a = b) (h' : c = d) : Ending.returned (.tuple #[.int k a, .int k' c]) = .returned (.tuple #[.int k b, .int k' d]) := by rw [h, h']
end Go.Proofs.Ytdljpnebpoaeiaa
