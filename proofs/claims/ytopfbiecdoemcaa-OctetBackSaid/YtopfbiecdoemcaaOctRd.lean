/-
  Walks of octet's reader: New, Left, Take, Number.
-/
import Derived.Test.YtopfbiecdoemcaaOctGet
import Derived.Test.YtopfbiecdoemcaaBytes
namespace Go.Proofs.Ytopfbiecdoemcaa
open Go.RowKit

/-- Block g is a reader of which the bytes l are left. -/
def Rd (w : World) (g : Nat) (l : List UInt8) : Prop :=
  ∃ d off cap, Blk w g 56 #[.slice (some ⟨d, off, none⟩) l.length cap] ∧ l.length ≤ cap ∧ cap ≤ 9223372036854775807 ∧ d < g ∧ d < w.heap.size ∧ Bys w d off l

theorem Rd.below {w w' : World} {g B : Nat} {l : List UInt8} (h : Rd w g l) (hb : Below B w w') (hB : w.heap.size ≤ B) : Rd w' g l := by
  obtain ⟨d, off, cap, h1, h2, h3, h4, h5, h6⟩ := h
  exact ⟨d, off, cap, h1.below hb (Nat.lt_of_lt_of_le h1.lt hB), h2, h3, h4, Nat.lt_of_lt_of_le h5 hb.size, h6.below hb (by omega)⟩
theorem Rd.lt {w : World} {g : Nat} {l : List UInt8} (h : Rd w g l) : g < w.heap.size := by
  obtain ⟨d, off, cap, h1, _⟩ := h
  exact h1.lt
theorem Rd.len {w : World} {g : Nat} {l : List UInt8} (h : Rd w g l) : l.length ≤ 9223372036854775807 := by
  obtain ⟨d, off, cap, _, h2, h3, _⟩ := h
  omega

theorem Rd.drewN {w : World} {g : Nat} {l : List UInt8} (h : Rd w g l) (m : Nat) : Rd (w.drewN m) g l := h
theorem Rd.drew {w : World} {g : Nat} {l : List UInt8} (h : Rd w g l) : Rd w.drew g l := h
theorem Rd.far {w : World} {g q : Nat} {l : List UInt8} (h : Rd w g l) (hq : g < q) (u : Value) : Rd (w.setCell ⟨q, 0, none⟩ u) g l := by
  obtain ⟨d, off, cap, h1, h2, h3, h4, h5, h6⟩ := h
  exact ⟨d, off, cap, h1.far (show g ≠ q by omega) u, h2, h3, h4, by simpa [World.setCell] using h5, fun j hj => by
    rw [World.cell?_setCell_other _ _ _ _ (by intro e; injection e with e; omega)]; exact h6 j hj⟩

theorem Rd.alloc {w : World} {g : Nat} {l : List UInt8} (h : Rd w g l) (o : Obj) : Rd (w.alloc o) g l := h.below ((Below.refl _ _).alloc (Nat.le_refl _) o) (Nat.le_refl _)

theorem new_any (l : List UInt8) (w : World) (hl : l.length ≤ 9223372036854775807) :
    Calls Try.prog 17 #[.string (bs l)] w fun e w' => ∃ g, e = .returned (.pointer (some ⟨g, 0, none⟩)) ∧ w.heap.size ≤ g ∧ Rd w' g l ∧ Below w.heap.size w w' := by
  obtain ⟨cap, w1, hcv, hc1, hc2, hb1, hs1, hcell, _⟩ := bytes_of (P := Try.prog) 9 28 5 Try.underlying9 Try.underlying28 Try.underlying5 w l (by unfold maxLen; omega)
  have HB1 := hide hb1
  have HS := hide hs1
  have HC : Hid (Bys w1 w.heap.size 0 l) := by
    intro j hj
    have := hcell j hj
    rw [Nat.zero_add]; simpa using this
  have HC2 := hide hc2
  clear hcell hb1 hs1 hc2
  go_enter Try.func17, Try.ntmps17
  go_wp2
  go_ret
  refine ⟨w1.heap.size, rfl, by have := HS.out; omega, ⟨w.heap.size, 0, cap, Blk.new w1 _ _, hc1, by have := HC2.out; unfold maxLen at this; omega, by have := HS.out; omega, by have := HS.out; simp; omega, HC.out.alloc (by have := HS.out; omega) _⟩, HB1.out.alloc HB1.out.size _⟩

theorem left_any (g : Nat) (l : List UInt8) (w : World) (h : Rd w g l) :
    Calls Try.prog 22 #[.pointer (some ⟨g, 0, none⟩)] w fun e w' => e = .returned (.int .i64 l.length) ∧ w = w' := by
  obtain ⟨d, off, cap, h1, h2, h3, h4, h5, h6⟩ := h
  have hc : w.cell? ⟨g, 0, none⟩ = some (.slice (some ⟨d, off, none⟩) l.length cap) := h1.cell 0
  have H6 := hide h6
  clear h6 h1
  go_enter Try.func22, Try.ntmps22
  go_wp2
  go_ret
  exact ⟨rfl, rfl⟩

theorem take_no (g : Nat) (l : List UInt8) (n : Int) (w : World) (h : Rd w g l) (hn : n < 0 ∨ (0 ≤ n ∧ (l.length : Int) < n)) :
    Calls Try.prog 18 #[.pointer (some ⟨g, 0, none⟩), .int .i64 n] w fun e w' => e = .returned (.tuple #[.string (bs []), .bool false]) ∧ w = w' := by
  have H := hide h; clear h
  rcases hn with hn | ⟨hn, hn2⟩
  · go_enter Try.func18, Try.ntmps18
    go_wp2_with (go_at_call 22; refine (left_any g l _ H.out).mono ?_; rintro e w' ⟨rfl, rfl⟩)
    go_ret2
    exact ⟨rfl, rfl⟩
  · have hd : decide (n < 0) = false := by simp; omega
    go_enter Try.func18, Try.ntmps18
    go_wp2_with (go_at_call 22; refine (left_any g l _ H.out).mono ?_; rintro e w' ⟨rfl, rfl⟩)
    go_ret2
    exact ⟨rfl, rfl⟩

theorem grown_of_drewN {w w' : World} {m : Nat} {r : Option Nat} (h : (w.drewN m).grownBy w' r) : w.grownBy w' r := ⟨h.os, h.tape, h.output, h.size, h.block⟩
theorem grown_set (w : World) (g o : Nat) (u : Value) : w.grownBy (w.setCell ⟨g, o, none⟩ u) (some g) :=
  ⟨rfl, rfl, rfl, by simp [World.setCell], fun i _ hne => Below.heap_setCell w ⟨g, o, none⟩ u i (by rintro rfl; exact hne rfl)⟩
theorem rd_after {w : World} {g d off off' cap cap' n : Nat} {l : List UInt8} (h1 : Blk w g 56 #[.slice (some ⟨d, off, none⟩) l.length cap]) (h4 : d < g) (h5 : d < w.heap.size) (h6 : Bys w d off' (l.drop n)) (hc : l.length - n ≤ cap') (hm : cap' ≤ 9223372036854775807) :
    Rd (w.setCell ⟨g, 0, none⟩ (.slice (some ⟨d, off', none⟩) (l.length - n) cap')) g (l.drop n) := by
  refine ⟨d, off', cap', ?_, by rw [List.length_drop]; exact hc, hm, h4, by simpa [World.setCell] using h5, fun j hj => ?_⟩
  · have := h1.set_ 0 (.slice (some ⟨d, off', none⟩) (l.length - n) cap')
    rw [List.length_drop]; exact this
  · rw [World.cell?_setCell_other _ _ _ _ (by intro e; injection e with e; omega)]
    exact h6 j hj
theorem take_yes (g : Nat) (l : List UInt8) (n : Nat) (w : World) (h : Rd w g l) (hn : n ≤ l.length) :
    Calls Try.prog 18 #[.pointer (some ⟨g, 0, none⟩), .int .i64 n] w fun e w' => e = .returned (.tuple #[.string (bs (l.take n)), .bool true]) ∧ Rd w' g (l.drop n) ∧ w.grownBy w' (some g) := by
  have H := hide h
  obtain ⟨d, off, cap, h1, h2, h3, h4, h5, h6⟩ := h
  have hc : w.cell? ⟨g, 0, none⟩ = some (.slice (some ⟨d, off, none⟩) l.length cap) := h1.cell 0
  have hf : w.frozen? ⟨g, 0, none⟩ = false := h1.frozen 0
  have hcv := (h6.take n).conv (P := Try.prog) 28 9 5 Try.underlying28 Try.underlying5 Try.underlying9 n n (by rw [List.length_take]; omega)
  have H6 := hide h6
  have H1 := hide h1
  have hd : decide ((n : Int) < 0) = false := by simp
  have hd2 : decide ((l.length : Int) < n) = false := by simp; omega
  have j1 : (n : Int) ≤ cap := by omega
  have j2 : (n : Int) ≤ l.length := by omega
  clear h6 h1
  by_cases hcap : cap = n
  · subst hcap
    go_enter Try.func18, Try.ntmps18
    go_wp2_with (go_at_call 22; refine (left_any g l _ H.out).mono ?_; rintro e w' ⟨rfl, rfl⟩)
    go_ret2
    have hfin := rd_after (n := cap) (off' := off) (cap' := 0) H1.out h4 h5 (by rw [List.drop_eq_nil_of_le (by omega)]; intro j hj; simp at hj) (by omega) (by omega)
    rw [show l.length - cap = 0 by omega] at hfin
    exact ⟨rfl, hfin, grown_set _ _ _ _⟩
  · go_enter Try.func18, Try.ntmps18
    go_wp2_with (go_at_call 22; refine (left_any g l _ H.out).mono ?_; rintro e w' ⟨rfl, rfl⟩)
    go_ret2
    have hfin := rd_after (n := n) (off' := off + n) (cap' := cap - n) H1.out h4 h5 (H6.out.drop n) (by omega) (by omega)
    exact ⟨rfl, hfin, grown_set _ _ _ _⟩

theorem take_any (g : Nat) (l : List UInt8) (n : Int) (w : World) (h : Rd w g l) :
    Calls Try.prog 18 #[.pointer (some ⟨g, 0, none⟩), .int .i64 n] w fun e w' => e = .returned (.tuple #[.string (bs (tkT l n)), .bool (okT l n)]) ∧ Rd w' g (drT l n) ∧ w.grownBy w' (some g) := by
  by_cases hk : okT l n = true
  · have h1 := okT_true hk
    obtain ⟨n, rfl⟩ := Int.eq_ofNat_of_zero_le h1.1
    unfold tkT drT
    rw [hk, if_pos rfl, if_pos rfl]
    exact take_yes g l n w h (by omega)
  · have hk' : okT l n = false := by simpa using hk
    unfold tkT drT
    rw [hk', if_neg (by simp), if_neg (by simp)]
    refine (take_no g l n w h (okT_false hk')).mono ?_
    rintro e w' ⟨rfl, rfl⟩
    exact ⟨rfl, h, World.grownBy.refl w _⟩
theorem number_no (g : Nat) (l : List UInt8) (k : Int) (w : World) (h : Rd w g l) (hk : okAt l.length 0 k = false) :
    Calls Try.prog 20 #[.pointer (some ⟨g, 0, none⟩), .int .i64 k] w fun e w' => e = .returned (.tuple #[.int .u32 0, .bool false]) ∧ ∃ m, w' = w.drewN m := by
  obtain ⟨d, off, cap, h1, h2, h3, h4, h5, h6⟩ := h
  have hc : w.cell? ⟨g, 0, none⟩ = some (.slice (some ⟨d, off, none⟩) l.length cap) := h1.cell 0
  have hg := get_any w.heap.size (some ⟨d, off, none⟩) cap l 0 k w (h6.row h5) h2 h3
  rw [hk, show gotN l 0 k = 0 by unfold gotN; rw [if_neg (by rw [hk]; simp)]] at hg
  have HG := hide hg
  clear h6 h1 hg hk
  go_enter Try.func20, Try.ntmps20
  go_wp2_with (go_at_call 13; refine HG.out.mono ?_; rintro e w' ⟨rfl, m, rfl⟩)
  go_ret2
  exact ⟨rfl, m, rfl⟩
theorem number_yes (g : Nat) (l : List UInt8) (k : Nat) (w : World) (h : Rd w g l) (hk : okAt l.length 0 k = true) :
    Calls Try.prog 20 #[.pointer (some ⟨g, 0, none⟩), .int .i64 k] w fun e w' => e = .returned (.tuple #[.int .u32 (gotN l 0 k : Nat), .bool true]) ∧ Rd w' g (l.drop k) ∧ w.grownBy w' (some g) := by
  have H := hide h
  obtain ⟨d, off, cap, h1, h2, h3, h4, h5, h6⟩ := h
  have hc : w.cell? ⟨g, 0, none⟩ = some (.slice (some ⟨d, off, none⟩) l.length cap) := h1.cell 0
  have hg := get_any w.heap.size (some ⟨d, off, none⟩) cap l 0 k w (h6.row h5) h2 h3
  rw [hk] at hg
  have HG := hide hg
  have hle : k ≤ l.length := by have := (okAt_true hk).2.2; omega
  clear h6 h1 hg hk
  go_enter Try.func20, Try.ntmps20
  go_wp2_with (first
    | (go_at_call 13; refine HG.out.mono ?_; rintro e w' ⟨rfl, m, rfl⟩)
    | (go_at_call 18; refine (take_yes g l k _ ?_ hle).mono ?_; exact H.out; rintro e w2 ⟨rfl, hr2, hg2⟩; have HR2 := hide hr2; have HG2 := hide hg2; clear hr2 hg2))
  go_ret2
  exact ⟨rfl, HR2.out, grown_of_drewN HG2.out⟩
theorem number_any (g : Nat) (l : List UInt8) (k : Int) (w : World) (h : Rd w g l) :
    Calls Try.prog 20 #[.pointer (some ⟨g, 0, none⟩), .int .i64 k] w fun e w' => e = .returned (.tuple #[.int .u32 (gotN l 0 k : Nat), .bool (okAt l.length 0 k)]) ∧ Rd w' g (drN l k) ∧ w.grownBy w' (some g) := by
  by_cases hk : okAt l.length 0 k = true
  · have hk4 := wd_true (okAt_true hk).1
    obtain ⟨k, rfl⟩ := Int.eq_ofNat_of_zero_le (show 0 ≤ k by omega)
    unfold drN
    rw [hk, if_pos rfl]
    exact number_yes g l k w h hk
  · have hk' : okAt l.length 0 k = false := by simpa using hk
    unfold drN gotN
    rw [hk', if_neg (by simp), if_neg (by simp)]
    refine (number_no g l k w h hk').mono ?_
    rintro e w' ⟨rfl, m, rfl⟩
    exact ⟨rfl, h, ⟨rfl, rfl, rfl, Nat.le_refl _, fun _ _ _ => rfl⟩⟩
end Go.Proofs.Ytopfbiecdoemcaa
