/-
  Bytes that lie in a block, and what stores make of them; nothing of the program.
-/
import Derived.Test.YtopfbiecdoemcaaBase
import Derived.Test.YtopfbiecdoemcaaNum
namespace Go.Proofs.Ytopfbiecdoemcaa
open Go.RowKit
/-- What Set answers. -/
def setN (l : List UInt8) (a k : Int) (v : Nat) : List UInt8 := if okAt l.length a k then l.take a.toNat ++ (toLE k.toNat v ++ l.drop (a + k).toNat) else l
/-- The bytes l lie in block g from off on. -/
def Bys (w : World) (g off : Nat) (l : List UInt8) : Prop := ∀ j (hj : j < l.length), w.cell? ⟨g, off + j, none⟩ = some (.int .u8 (l[j].toNat : Int))
theorem Bys.below {w w' : World} {g off B : Nat} {l : List UInt8} (h : Bys w g off l) (hb : Below B w w') (hg : g < B) : Bys w' g off l :=
  fun j hj => (hb.cell (p := ⟨g, off + j, none⟩) hg).trans (h j hj)
theorem Bys.alloc {w : World} {g off : Nat} {l : List UInt8} (h : Bys w g off l) (hg : g < w.heap.size) (o : Obj) : Bys (w.alloc o) g off l :=
  fun j hj => (World.cell?_alloc_lt w o ⟨g, off + j, none⟩ hg).trans (h j hj)
theorem Bys.far {w : World} {g off : Nat} {l : List UInt8} (h : Bys w g off l) (g' o' : Nat) (x : List UInt8) (hne : g ≠ g') : Bys (setBytes w g' o' x) g off l :=
  fun j hj => (setBytes_other g' x ⟨g, off + j, none⟩ w o' (.inl hne)).trans (h j hj)
theorem Bys.row {w : World} {g off B : Nat} {l : List UInt8} (h : Bys w g off l) (hg : g < B) : Row w B (some ⟨g, off, none⟩) (bytesV l) := by
  refine .inr ⟨g, off, rfl, hg, fun j u hu => ?_⟩
  have hj : j < l.length := by
    rw [← bytesV_length]; exact (List.getElem?_eq_some_iff.1 hu).1
  rw [bytesV_get l j hj] at hu
  rw [h j hj]; exact hu
theorem Bys.drop {w : World} {g off : Nat} {l : List UInt8} (h : Bys w g off l) (k : Nat) : Bys w g (off + k) (l.drop k) := by
  intro j hj
  rw [List.length_drop] at hj
  have := h (k + j) (by omega)
  rw [List.getElem_drop, Nat.add_assoc]; exact this
theorem Bys.take {w : World} {g off : Nat} {l : List UInt8} (h : Bys w g off l) (k : Nat) : Bys w g off (l.take k) := by
  intro j hj
  rw [List.length_take] at hj
  rw [List.getElem_take]; exact h j (by omega)
theorem Bys.left {w : World} {g off : Nat} {l m : List UInt8} (h : Bys w g off (l ++ m)) : Bys w g off l := by
  have := h.take l.length
  rwa [List.take_left] at this

/-- x laid over l from a on. -/
def over (l : List UInt8) (a : Nat) (x : List UInt8) : List UInt8 := l.take a ++ (x ++ l.drop (a + x.length))
theorem over_length (l : List UInt8) (a : Nat) (x : List UInt8) (h : a + x.length ≤ l.length) : (over l a x).length = l.length := by
  simp [over]; omega
theorem over_low (l : List UInt8) (a : Nat) (x : List UInt8) (ha : a + x.length ≤ l.length) (j : Nat) (h : j < a) : (over l a x)[j]? = l[j]? := by
  unfold over
  rw [List.getElem?_append_left (by rw [List.length_take]; omega), List.getElem?_take, if_pos h]
theorem over_mid (l : List UInt8) (a : Nat) (x : List UInt8) (ha : a + x.length ≤ l.length) (j : Nat) (h : j < x.length) : (over l a x)[a + j]? = x[j]? := by
  unfold over
  have e0 : (l.take a).length = a := by rw [List.length_take]; omega
  rw [List.getElem?_append_right (by omega), e0, Nat.add_sub_cancel_left, List.getElem?_append_left h]
theorem over_high (l : List UInt8) (a : Nat) (x : List UInt8) (ha : a + x.length ≤ l.length) (j : Nat) (h : a + x.length ≤ j) : (over l a x)[j]? = l[j]? := by
  unfold over
  have e0 : (l.take a).length = a := by rw [List.length_take]; omega
  rw [List.getElem?_append_right (by omega), e0, List.getElem?_append_right (by omega), List.getElem?_drop]
  congr 1; omega
theorem Bys.iff {w : World} {g off : Nat} {l : List UInt8} : Bys w g off l ↔ ∀ j b, l[j]? = some b → w.cell? ⟨g, off + j, none⟩ = some (.int .u8 (b.toNat : Int)) := by
  constructor
  · intro h j b hb
    obtain ⟨hj, e⟩ := List.getElem?_eq_some_iff.1 hb
    rw [← e]; exact h j hj
  · intro h j hj
    exact h j _ (List.getElem?_eq_getElem hj)
theorem Bys.set {w : World} {g off : Nat} {l : List UInt8} (h : Bys w g off l) (a : Nat) (x : List UInt8) (ha : a + x.length ≤ l.length) : Bys (setBytes w g (off + a) x) g off (over l a x) := by
  rw [Bys.iff] at h ⊢
  intro j b hb
  rcases Nat.lt_or_ge j a with h1 | h1
  · rw [over_low l a x ha j h1] at hb
    rw [setBytes_other g x ⟨g, off + j, none⟩ w (off + a) (.inr (.inl (show off + j < off + a by omega)))]
    exact h j b hb
  · rcases Nat.lt_or_ge j (a + x.length) with h2 | h2
    · obtain ⟨i, rfl⟩ : ∃ i, j = a + i := ⟨j - a, by omega⟩
      rw [over_mid l a x ha i (by omega)] at hb
      obtain ⟨hi, e⟩ := List.getElem?_eq_some_iff.1 hb
      have := setBytes_at g x w (off + a) i hi (fun i hi => ⟨_, by rw [Nat.add_assoc]; exact h (a + i) _ (List.getElem?_eq_getElem (by omega))⟩)
      rw [← Nat.add_assoc, this, e]
    · rw [over_high l a x ha j h2] at hb
      rw [setBytes_other g x ⟨g, off + j, none⟩ w (off + a) (.inr (.inr (show off + a + x.length ≤ off + j by omega)))]
      exact h j b hb
theorem Bys.conv {P : Program} (src dst e : TypeId) (hs : P.underlying src = some (.slice e)) (he : P.underlying e = some (.int .u8)) (hd : P.underlying dst = some .string) {w : World} {g off : Nat} {l : List UInt8} (h : Bys w g off l) (cap n : Nat) (hn : l.length = n) :
    (convert src dst (.slice (some ⟨g, off, none⟩) n cap)).run P w = .ok (.string (bs l)) w := run_conv_bs src dst e hs he hd w g off cap l n hn h
/-- 's[:min(len(s), N)]', in one way. -/
theorem cut_one (N : Nat) (M : Int) (hM : M = N) (l : List UInt8) : ∃ t : List UInt8, t.length ≤ N ∧ (t.length : Int) ≤ (l.length : Int) ∧ (if M < (l.length : Int) then M else (l.length : Int)) = (t.length : Int) ∧ List.take t.length l = t := by
  by_cases h5 : M < (l.length : Int)
  · refine ⟨l.take N, by simp; omega, by simp; omega, ?_, ?_⟩
    · rw [if_pos h5, List.length_take]; omega
    · rw [List.length_take, Nat.min_eq_left (by omega)]
  · exact ⟨l, by omega, by omega, by rw [if_neg h5], List.take_length⟩
theorem setN_yes (l : List UInt8) (a k v : Nat) (h : okAt l.length a k = true) : setN l a k v = l.take a ++ (toLE k v ++ l.drop (a + k)) := by
  unfold setN; rw [if_pos h, show ((a : Int) + k).toNat = a + k by omega]; rfl
theorem setN_take (l : List UInt8) (a k v : Nat) (h : okAt l.length a k = true) : (setN l a k v).take a = l.take a := by
  have h1 := okAt_true h
  have hk4 := wd_true h1.1
  rw [setN_yes l a k v h, List.take_append_of_le_length (by rw [List.length_take]; omega), List.take_take, Nat.min_self]
theorem setN_drop (l : List UInt8) (a k v : Nat) (h : okAt l.length a k = true) : (setN l a k v).drop (a + k) = l.drop (a + k) := by
  have h1 := okAt_true h
  have hk4 := wd_true h1.1
  have e : (l.take a ++ toLE k v).length = a + k := by rw [List.length_append, List.length_take, toLE_length]; omega
  rw [setN_yes l a k v h, ← List.append_assoc, ← e, List.drop_left]
theorem setN_got (l : List UInt8) (a k v : Nat) (h : okAt l.length a k = true) : gotN (setN l a k v) a k = v % 256 ^ k ∧ (setN l a k v).length = l.length := by
  have h1 := okAt_true h
  have hk4 := wd_true h1.1
  have e0 : (l.take a).length = a := by rw [List.length_take]; omega
  have el : (setN l a k v).length = l.length := by
    rw [setN_yes l a k v h]; simp [toLE_length]; omega
  refine ⟨?_, el⟩
  unfold gotN
  rw [el, if_pos h]
  show le (((setN l a k v).drop a).take k) = _
  have e1 : (l.take a ++ (toLE k v ++ l.drop (a + k))).drop a = toLE k v ++ l.drop (a + k) := by
    have := List.drop_left (l₁ := l.take a) (l₂ := toLE k v ++ l.drop (a + k))
    rwa [e0] at this
  have e2 : (toLE k v ++ l.drop (a + k)).take k = toLE k v := by
    have := List.take_left (l₁ := toLE k v) (l₂ := l.drop (a + k))
    rwa [toLE_length] at this
  rw [setN_yes l a k v h, e1, e2, le_toLE]
/-- May so many bytes be taken? -/
def okT (l : List UInt8) (n : Int) : Bool := decide (0 ≤ n) && decide (n ≤ l.length)
def tkT (l : List UInt8) (n : Int) : List UInt8 := if okT l n then l.take n.toNat else []
def drT (l : List UInt8) (n : Int) : List UInt8 := if okT l n then l.drop n.toNat else l
def drN (l : List UInt8) (k : Int) : List UInt8 := if okAt l.length 0 k then l.drop k.toNat else l
theorem okT_true {l : List UInt8} {n : Int} (h : okT l n = true) : 0 ≤ n ∧ n ≤ l.length := by
  simpa [okT] using h
theorem okT_false {l : List UInt8} {n : Int} (h : okT l n = false) : n < 0 ∨ (0 ≤ n ∧ (l.length : Int) < n) := by
  simp only [okT, Bool.and_eq_false_iff, decide_eq_false_iff_not] at h; omega
theorem drT_len (l : List UInt8) (n : Int) : (drT l n).length ≤ l.length := by
  unfold drT; split
  · rw [List.length_drop]; omega
  · omega
theorem drN_len (l : List UInt8) (n : Int) : (drN l n).length ≤ l.length := by
  unfold drN; split
  · rw [List.length_drop]; omega
  · omega
end Go.Proofs.Ytopfbiecdoemcaa
