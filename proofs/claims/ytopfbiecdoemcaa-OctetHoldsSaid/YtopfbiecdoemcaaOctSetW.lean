/-
  octet.Set as a contract for bytes that lie in a block; nothing of the laws.
-/
import Derived.Test.YtopfbiecdoemcaaOctSet
import Derived.Test.YtopfbiecdoemcaaOctRef2
import Derived.Test.YtopfbiecdoemcaaBytes
namespace Go.Proofs.Ytopfbiecdoemcaa
open Go.RowKit
def setW (w : World) (g off : Nat) (n : Nat) (a k : Int) (v : Nat) : World := if okAt n a k then setBytes w g (off + a.toNat) (toLE k.toNat v) else w
theorem set_any (g off cap v : Nat) (l : List UInt8) (n : Nat) (hn : n ≤ l.length) (a k : Int) (w : World) (hm : n ≤ 9223372036854775807) (hv : v < 4294967296) (hb : Bys w g off l) (hf : ∀ j, j < l.length → w.frozen? ⟨g, off + j, none⟩ = false) :
    Calls Try.prog 15 #[.slice (some ⟨g, off, none⟩) n cap, .int .i64 a, .int .i64 k, .int .u32 v] w fun e w' => e = .returned (.bool (okAt n a k)) ∧ setW w g off n a k v = w' := by
  by_cases hk : okAt n a k = true
  · obtain ⟨hw, h0, _⟩ := okAt_true hk
    have hk4 := wd_true hw
    obtain ⟨a, rfl⟩ := Int.eq_ofNat_of_zero_le h0
    obtain ⟨k, rfl⟩ := Int.eq_ofNat_of_zero_le (show 0 ≤ k by omega)
    unfold setW
    rw [hk, if_pos rfl]
    exact set_yes g off n cap a k v w hk hm hv (fun j hj => ⟨_, hb j (by omega)⟩) (fun j hj => hf j (by omega))
  · have hk' : okAt n a k = false := by simpa using hk
    unfold setW
    rw [hk', if_neg (by simp)]
    exact set_no _ n cap a k v w hk' hm
theorem setW_bys {w : World} {g off : Nat} {l : List UInt8} (m : List UInt8) (a k : Int) (v : Nat) (hb : Bys w g off (l ++ m)) : Bys (setW w g off l.length a k v) g off (setN l a k v ++ m) := by
  unfold setW setN
  by_cases hk : okAt l.length a k = true
  · rw [if_pos hk, if_pos hk]
    have h1 := okAt_true hk
    have hk4 := wd_true h1.1
    have e := hb.set a.toNat (toLE k.toNat v) (by rw [toLE_length, List.length_append]; omega)
    have e2 : over (l ++ m) a.toNat (toLE k.toNat v) = l.take a.toNat ++ (toLE k.toNat v ++ l.drop (a + k).toNat) ++ m := by
      unfold over
      rw [toLE_length, List.take_append_of_le_length (by omega), List.drop_append_of_le_length (by omega), show (a + k).toNat = a.toNat + k.toNat by omega]
      simp
    rwa [e2] at e
  · rw [if_neg hk, if_neg hk]; exact hb
theorem setN_length (l : List UInt8) (a k : Int) (v : Nat) : (setN l a k v).length = l.length := by
  unfold setN
  split
  · rename_i hk
    have h1 := okAt_true hk
    have hk4 := wd_true h1.1
    simp [toLE_length]; omega
  · rfl
theorem setW_far {w w2 : World} {g off n g' o : Nat} {a k : Int} {v : Nat} {u : Option Value} (h : setW w g off n a k v = w2) (hne : g' ≠ g) (hc : w.cell? ⟨g', o, none⟩ = u) : w2.cell? ⟨g', o, none⟩ = u := by
  subst h
  unfold setW
  split
  · rw [setBytes_other _ _ _ _ _ (.inl hne)]; exact hc
  · exact hc
theorem setW_below {w0 w w2 : World} {g off n B : Nat} {a k : Int} {v : Nat} (hB : B ≤ g) (h : setW w g off n a k v = w2) (hb : Below B w0 w) : Below B w0 w2 ∧ w2.heap.size = w.heap.size := by
  subst h
  unfold setW
  split
  · exact ⟨setBytes_below _ _ _ hB _ _ _ hb, setBytes_size _ _ _ _⟩
  · exact ⟨hb, rfl⟩
end Go.Proofs.Ytopfbiecdoemcaa
