/-
  Chapter 21: an image that came in, opened to letters; the law ImageParts.
-/
import Derived.Test.YtdljpnebpoaeiaaImgU
import Derived.Test.YtdljpnebpoaeiaaFrame
import Derived.Test.YtdljpnebpoaeiaaRecs
import Derived.Test.YtdljpnebpoaeiaaOpen
import Derived.OpenShut
import Derived.ChangeSlices
namespace Go.Proofs.Ytdljpnebpoaeiaa
open Go.ChangeShapes Go.WideShapes Go.Deep Go.RowKit
open Sy

/-- a slice that came in, and its cells -/
structure SlIs (W : World) (v : Value) (k : Nat) (cells : List Value) (n B O C : Nat) (S : Option Nat) : Prop where
  is : v = (match k with | 0 => .slice none 0 0 | 1 => .slice (some ⟨B, O, S⟩) 0 C | _ => .slice (some ⟨B, O, none⟩) n C)
  ok : slOk k n
  le : n ≤ C
  at_ : 2 ≤ k → ∃ arr ty fr, W.heap[B]? = some (.cells arr ty fr) ∧ O + cells.length ≤ arr.size ∧ ∀ j v, cells[j]? = some v → arr[O + j]? = some v
section
variable {H : Type} {enc : TypeId × Value → H} {P : Program} {W : World} {base : Nat} {spare : Nat → Bool} {held : Bool}
theorem cell_is {a : Addr} {v : Value} (h : W.cell? a = some v) : ∃ arr ty fr, W.heap[a.block]? = some (.cells arr ty fr) ∧ arr[a.off]? = some v ∧ a.spot = none := by
  have hs := World.cell?_spot h
  unfold World.cell? at h
  split at h
  · rename_i c t f hb
    rw [hs] at h
    exact ⟨c, t, f, hb, by simpa using h, hs⟩
  · cases h
theorem add_off {a : Addr} (h : a.spot = none) (i : Nat) : (a.add i).block = a.block ∧ (a.add i).off = a.off + i := by
  obtain ⟨b, o, s⟩ := a
  subst h
  unfold Addr.add
  split <;> simp_all
theorem row_is {a : Addr} {cells : List Value} (h0 : 0 < cells.length) (h : ∀ i v, cells[i]? = some v → W.cell? (a.add i) = some v) : a.spot = none ∧ ∃ arr ty fr, W.heap[a.block]? = some (.cells arr ty fr) ∧ a.off + cells.length ≤ arr.size ∧ ∀ j v, cells[j]? = some v → arr[a.off + j]? = some v := by
  have h1 := h 0 _ (List.getElem?_eq_getElem h0)
  rw [show a.add 0 = a by unfold Addr.add; simp] at h1
  obtain ⟨arr, ty, fr, q1, q2, q3⟩ := cell_is h1
  have hat : ∀ j v, cells[j]? = some v → arr[a.off + j]? = some v := fun j v hj => by
    obtain ⟨arr', ty', fr', p1, p2, _⟩ := cell_is (h j v hj)
    obtain ⟨e1, e2⟩ := add_off q3 j
    rw [e1, q1] at p1
    cases p1
    rw [e2] at p2
    exact p2
  refine ⟨q3, arr, ty, fr, q1, ?_, hat⟩
  have := hat (cells.length - 1) _ (List.getElem?_eq_getElem (by omega))
  have := (Array.getElem?_eq_some_iff.1 this).1
  omega
theorem u32_slice {t e : TypeId} {fuel : Nat} {u : Value} {x : DataW H × List MemPlace} (ht : P.underlying t = some (.slice e)) (he : P.underlying e = some (.int .u32)) (hc : P.cellsOf e = 1)
    (h : DataW.trod enc P W base spare held fuel t [u] = some x) : ∃ (k : Nat) (xs : List Nat) (B O C : Nat) (S : Option Nat), SlIs W u k (u32s xs) xs.length B O C S ∧ ∀ y ∈ xs, y < 4294967296 := by
  rcases open_ints ht he hc h with ⟨h1, _⟩ | ⟨a, len, cap, zs, h1, _, hl, _, hz, _, hcell, hw⟩
  · simp only [List.cons.injEq, and_true] at h1
    exact ⟨0, [], 0, 0, 0, none, ⟨h1, ⟨by omega, fun _ => rfl⟩, Nat.le_refl _, fun h => by omega⟩, fun y hy => by cases hy⟩
  · simp only [List.cons.injEq, and_true] at h1
    subst h1
    have hlz : len ≤ zs.length := by rw [hz]; split <;> omega
    by_cases h0 : len = 0
    · subst h0
      obtain ⟨b, o, s⟩ := a
      exact ⟨1, [], b, o, cap, s, ⟨rfl, ⟨by omega, fun _ => rfl⟩, Nat.zero_le _, fun h => by omega⟩, fun y hy => by cases hy⟩
    · have hlen : ((zs.take len).map Int.toNat).length = len := by simp; omega
      have hget : ∀ i v, (u32s ((zs.take len).map Int.toNat))[i]? = some v → W.cell? (a.add i) = some v := by
        intro i v hv
        unfold u32s at hv
        rw [List.getElem?_map, List.getElem?_map, List.getElem?_take] at hv
        split at hv
        · rename_i hi
          rw [List.getElem?_eq_getElem (by omega)] at hv
          simp only [Option.map_some, Option.some.injEq] at hv
          have h2 := hcell i (by omega)
          have h3 : zs.getD i 0 = zs[i]'(by omega) := by rw [List.getD_eq_getElem?_getD, List.getElem?_eq_getElem (by omega)]; rfl
          rw [h3] at h2
          have h4 := wf_u32 (hw _ (List.getElem_mem (by omega : i < zs.length)))
          rw [h2, ← hv]
          congr 2
          exact (Int.toNat_of_nonneg h4.1).symm
        · cases hv
      have hul : (u32s ((zs.take len).map Int.toNat)).length = len := by unfold u32s; rw [List.length_map]; exact hlen
      obtain ⟨hs, hrow⟩ := row_is (a := a) (cells := u32s ((zs.take len).map Int.toNat)) (by omega) hget
      obtain ⟨b, o, s⟩ := a
      simp only at hs
      subst hs
      refine ⟨2, (zs.take len).map Int.toNat, b, o, cap, none, ⟨by rw [hlen]; rfl, ⟨by omega, fun h => by omega⟩, by rw [hlen]; exact hl, fun _ => hrow⟩, fun y hy => ?_⟩
      obtain ⟨z, hz', rfl⟩ := List.mem_map.1 hy
      have h4 := wf_u32 (hw z (List.mem_of_mem_take hz'))
      omega
end
instance : Inhabited Rl := ⟨⟨0, false, 0, 0, 0, 0⟩⟩
theorem rels_at : ∀ (rs : List Rl) (i j : Nat), i < rs.length → j < 6 → (rels rs)[i * 6 + j]? = (relC (rl0 rs i))[j]?
  | [], i, j, h, _ => by simp at h
  | x :: rs, 0, j, _, hj => by
    rw [rels_cons, List.getElem?_append_left (by simp only [relC, List.length_cons, List.length_nil]; omega)]
    simp [rl0]
  | x :: rs, i + 1, j, h, hj => by
    have hl : (relC x).length = 6 := rfl
    rw [rels_cons, List.getElem?_append_right (by rw [hl]; omega), hl, show (i + 1) * 6 + j - 6 = i * 6 + j by omega, rels_at rs i j (by simpa using h) hj]
    rfl
section
variable {H : Type} {enc : TypeId × Value → H} {W : World} {base : Nat} {spare : Nat → Bool} {held : Bool}
theorem rel_slice {fuel : Nat} {u : Value} {x : DataW H × List MemPlace} (h : DataW.trod enc Try.prog W base spare held fuel 23 [u] = some x) :
    ∃ (k : Nat) (rs : List Rl) (B O C : Nat) (S : Option Nat), SlIs W u k (rels rs) rs.length B O C S ∧ ∀ y ∈ rs, RlOk y := by
  rcases open_slice_fields Try.underlying23 Try.underlying50 (by kernel_rfl) (by kernel_rfl) h with ⟨h1, _⟩ | ⟨a, len, cap, m, D, Pl, h1, _, hl, _, hm, _, hi⟩
  · simp only [List.cons.injEq, and_true] at h1
    exact ⟨0, [], 0, 0, 0, none, ⟨h1, ⟨by omega, fun _ => rfl⟩, Nat.le_refl _, fun h => by omega⟩, fun y hy => by cases hy⟩
  · simp only [List.cons.injEq, and_true] at h1
    subst h1
    have hlm : len ≤ m := by rw [hm]; split <;> omega
    by_cases h0 : len = 0
    · subst h0
      obtain ⟨b, o, s⟩ := a
      exact ⟨1, [], b, o, cap, s, ⟨rfl, ⟨by omega, fun _ => rfl⟩, Nat.zero_le _, fun h => by omega⟩, fun y hy => by cases hy⟩
    · obtain ⟨R, hR⟩ := choose_lt (n := len) (α := Rl) (p := fun i r => RlOk r ∧ ∀ j v, (relC r)[j]? = some v → W.cell? (a.add (i * 6 + j)) = some v) (fun i hil => by
        obtain ⟨ys, n, _, _, _, hf⟩ := hi i (by omega)
        obtain ⟨v0, y0, c0, _, t0⟩ := hf 0 _ rfl
        obtain ⟨v1, y1, c1, _, t1⟩ := hf 1 _ rfl
        obtain ⟨v2, y2, c2, _, t2⟩ := hf 2 _ rfl
        obtain ⟨v3, y3, c3, _, t3⟩ := hf 3 _ rfl
        obtain ⟨v4, y4, c4, _, t4⟩ := hf 4 _ rfl
        obtain ⟨v5, y5, c5, _, t5⟩ := hf 5 _ rfl
        obtain ⟨n0, e0, _, w0⟩ := DataW.trod_int Try.underlying27 t0
        obtain ⟨n1, e1, _⟩ := DataW.trod_bool Try.underlying4 t1
        obtain ⟨n2, e2, _, w2⟩ := DataW.trod_int Try.underlying27 t2
        obtain ⟨n3, e3, _, w3⟩ := DataW.trod_int Try.underlying27 t3
        obtain ⟨n4, e4, _, w4⟩ := DataW.trod_int Try.underlying48 t4
        obtain ⟨n5, e5, _, w5⟩ := DataW.trod_int Try.underlying48 t5
        simp only [List.cons.injEq, and_true] at e0 e1 e2 e3 e4 e5
        subst e0 e1 e2 e3 e4 e5
        have b0 := wf_u32 w0
        have b2 := wf_u32 w2
        have b3 := wf_u32 w3
        have b4 := wf_u16 w4
        have b5 := wf_u16 w5
        refine ⟨⟨n0.toNat, n1, n2.toNat, n3.toNat, n4.toNat, n5.toNat⟩, ⟨by show n0.toNat < _; omega, by show n2.toNat < _; omega, by show n3.toNat < _; omega, by show n4.toNat < _; omega, by show n5.toNat < _; omega⟩, fun j v hj => ?_⟩
        have hj6 : j < 6 := (List.getElem?_eq_some_iff.1 hj).1
        have cc : ∀ z : Int, 0 ≤ z → ((z.toNat : Nat) : Int) = z := fun z hz => Int.toNat_of_nonneg hz
        unfold relC at hj
        simp only [cc n0 b0.1, cc n2 b2.1, cc n3 b3.1, cc n4 b4.1, cc n5 b5.1] at hj
        obtain rfl | rfl | rfl | rfl | rfl | rfl : j = 0 ∨ j = 1 ∨ j = 2 ∨ j = 3 ∨ j = 4 ∨ j = 5 := by omega
        all_goals
          simp at hj
          subst hj
          assumption)
      have hlen : ((List.range len).map R).length = len := by simp
      have h0r : ∀ i, i < len → rl0 ((List.range len).map R) i = R i := fun i hil => by
        unfold rl0; rw [List.getD_eq_getElem?_getD, List.getElem?_map, List.getElem?_range hil]; rfl
      have hget : ∀ q v, (rels ((List.range len).map R))[q]? = some v → W.cell? (a.add q) = some v := by
        intro q v hv
        have hq : q < len * 6 := by
          have := (List.getElem?_eq_some_iff.1 hv).1
          rw [rels_len, hlen] at this; exact this
        have e : q = q / 6 * 6 + q % 6 := by omega
        rw [e, rels_at _ _ _ (by rw [hlen]; omega) (Nat.mod_lt _ (by omega)), h0r _ (by omega)] at hv
        rw [e]
        exact (hR (q / 6) (by omega)).2 _ _ hv
      obtain ⟨hs, hrow⟩ := row_is (a := a) (cells := rels ((List.range len).map R)) (by rw [rels_len, hlen]; omega) hget
      obtain ⟨b, o, s⟩ := a
      simp only at hs
      subst hs
      refine ⟨2, (List.range len).map R, b, o, cap, none, ⟨by rw [hlen]; rfl, ⟨by omega, fun h => by omega⟩, by rw [hlen]; exact hl, fun _ => hrow⟩, fun y hy => ?_⟩
      obtain ⟨i, hi', rfl⟩ := List.mem_map.1 hy
      exact (hR i (by simpa using hi')).1
end
/-- What the letters of an image that came in stand for. -/
def ren3 (B1 O1 C1 : Nat) (S1 : Option Nat) (B2 O2 C2 : Nat) (S2 : Option Nat) (B3 O3 C3 : Nat) (S3 : Option Nat) : Ren :=
  ⟨fun l => if l < NG then l else if l = 64 then B1 else if l = 65 then B2 else B3, fun l => if l < NG then 0 else if l = 64 then O1 else if l = 65 then O2 else O3,
    fun l => if l = 64 then (O1, S1) else if l = 65 then (O2, S2) else (O3, S3), fun l => if l = 64 then C1 else if l = 65 then C2 else C3, fun l => Nat.blt l 67,
    fun _ h => if_pos h, fun _ h => if_pos h, fun l h => blt_yes (Nat.lt_trans h (by decide))⟩
theorem cap_big (r : Ren) (g : Nat) : r.cap (big + g) = r.c g := cap_letter r g
section
variable {r : Ren} {W : World} {v : Value} {k n B O C g : Nat} {S : Option Nat} {cells : List Value}
theorem sl_val (h : SlIs W v k cells n B O C S) (hb : r.b g = B) (hw : r.w g = O) (ho : r.o g = (O, S)) (hc : r.c g = C) : v = r.val (sl k g n) := by
  rw [h.is]
  rcases k with _ | _ | k
  · show Value.slice none 0 0 = r.val (.slice none 0 0)
    rw [val_slice]; simp only [Option.map_none, Ren.cap]; rfl
  · show Value.slice (some ⟨B, O, S⟩) 0 C = r.val (.slice (some ⟨g, 0, some g⟩) 0 (big + g))
    rw [val_slice, cap_big, hc]; simp [Ren.addr, hb, ho]
  · show Value.slice (some ⟨B, O, none⟩) n C = r.val (.slice (some ⟨g, 0, none⟩) n (big + g))
    rw [val_slice, cap_big, hc]; simp [Ren.addr, hb, hw]
theorem sl_bnd {d : Nat → Bool} (hd : d g = true) : bnd d (sl k g n) = true := by
  unfold sl
  split
  · exact bnd_flat0 _ rfl
  · rw [bnd_slice]; simp [bndA, hd]
  · rw [bnd_slice]; simp [bndA, hd]
theorem sl_block (h : SlIs W v k cells n B O C S) (hb : r.b g = B) (hw : r.w g = O) (hf : ∀ u ∈ cells, flat0 u = true) : ∀ x ∈ slH k g cells, x.1 = g ∧ x.2.rw = false ∧ x.2.op = some (0, 0) ∧ x.2.cells = cells ∧ Sy.Is r x.2 x.1 W := by
  intro x hx
  unfold slH at hx
  split at hx
  · cases hx
  · cases hx
  · rename_i k0 k1
    obtain rfl := List.mem_singleton.1 hx
    refine ⟨rfl, rfl, rfl, rfl, .inl ⟨rfl, ?_⟩⟩
    have hk2 : 2 ≤ k := by
      rcases Nat.lt_or_ge k 2 with h | h
      · have : k = 0 ∨ k = 1 := by omega
        rcases this with h | h
        · exact absurd h k0
        · exact absurd h k1
      · exact h
    obtain ⟨arr, ty, fr, p1, p2, p3⟩ := h.at_ hk2
    refine ⟨arr, ty, fr, by rw [hb]; exact p1, ⟨.inl rfl, by rw [hw]; exact p2⟩, fun j u hj => ?_, fun h => by cases h⟩
    rw [hw, val_flat0 r (hf u (List.mem_of_getElem? hj))]
    exact p3 j u hj
end
theorem in_good {W : World} {v1 v2 v3 : Value} {i j k : Nat} {cs : List Nat} {rs : List Rl} {starts : List Nat} {B1 O1 C1 B2 O2 C2 B3 O3 C3 : Nat} {S1 S2 S3 : Option Nat}
    (h1 : SlIs W v1 i (u32s cs) cs.length B1 O1 C1 S1) (h2 : SlIs W v2 j (rels rs) rs.length B2 O2 C2 S2) (h3 : SlIs W v3 k (u32s starts) starts.length B3 O3 C3 S3) (T : List (Nat × Bool)) :
    Sy.Good (ren3 B1 O1 C1 S1 B2 O2 C2 S2 B3 O3 C3 S3) ⟨67, inH i j k cs rs starts, inLo cs rs starts, 0, T, 0, True⟩ W := by
  have key : ∀ x ∈ inH i j k cs rs starts, (x.1 = 64 ∨ x.1 = 65 ∨ x.1 = 66) ∧ x.2.rw = false ∧ x.2.op = some (0, 0) ∧ (∀ u ∈ x.2.cells, flat0 u = true) ∧ Sy.Is (ren3 B1 O1 C1 S1 B2 O2 C2 S2 B3 O3 C3 S3) x.2 x.1 W := by
    intro x hx
    unfold inH at hx
    rw [List.mem_append, List.mem_append] at hx
    rcases hx with (hx | hx) | hx
    · obtain ⟨e1, e2, e3, e4, e5⟩ := sl_block (r := ren3 B1 O1 C1 S1 B2 O2 C2 S2 B3 O3 C3 S3) (g := 64) h1 rfl rfl (u32s_flat cs) x hx
      exact ⟨.inl e1, e2, e3, by rw [e4]; exact u32s_flat cs, e5⟩
    · obtain ⟨e1, e2, e3, e4, e5⟩ := sl_block (r := ren3 B1 O1 C1 S1 B2 O2 C2 S2 B3 O3 C3 S3) (g := 65) h2 rfl rfl (rels_flat rs) x hx
      exact ⟨.inr (.inl e1), e2, e3, by rw [e4]; exact rels_flat rs, e5⟩
    · obtain ⟨e1, e2, e3, e4, e5⟩ := sl_block (r := ren3 B1 O1 C1 S1 B2 O2 C2 S2 B3 O3 C3 S3) (g := 66) h3 rfl rfl (u32s_flat starts) x hx
      exact ⟨.inr (.inr e1), e2, e3, by rw [e4]; exact u32s_flat starts, e5⟩
  refine ⟨fun g k hk => (key _ (look_mem hk)).2.2.2.2, fun g g' k k' e1 e2 hrw _ => ?_, fun g k hk => ?_, fun x hx => ?_⟩
  · have := (key _ (look_mem e1)).2.1
    simp only [] at this
    rw [this] at hrw; cases hrw
  · obtain ⟨q1, _, q3, q4, _⟩ := key _ (look_mem hk)
    refine ⟨blt_yes (by simp only [] at q1; omega), fun p hp => ?_, fun u hu => ⟨bnd_flat0 _ (q4 u hu), flat0_oneCell (q4 u hu)⟩⟩
    simp only [] at q3
    rw [q3] at hp
    cases hp
    rfl
  · simp only [inLo, List.mem_cons, List.not_mem_nil, or_false] at hx
    rcases hx with rfl | rfl | rfl
    · exact ⟨h1.le, rfl⟩
    · exact ⟨h2.le, rfl⟩
    · exact ⟨h3.le, rfl⟩
theorem eq7 {l : List Value} {a b c d e f g : Value} (hl : l.length = 7) (h0 : l[0]? = some a) (h1 : l[1]? = some b) (h2 : l[2]? = some c) (h3 : l[3]? = some d) (h4 : l[4]? = some e) (h5 : l[5]? = some f) (h6 : l[6]? = some g) : l = [a, b, c, d, e, f, g] := by
  match l, hl with
  | [x0, x1, x2, x3, x4, x5, x6], _ =>
    simp only [List.getElem?_cons_zero, List.getElem?_cons_succ, Option.some.injEq] at h0 h1 h2 h3 h4 h5 h6
    subst h0 h1 h2 h3 h4 h5 h6
    rfl
/-- An image that came in. -/
theorem open_img {H : Type} {enc : TypeId × Value → H} {W : World} {base b0 : Nat} {rc : Reach} {sp : Nat → Bool} {hd : Bool} {v : Value} {d : DataW H} {p : List MemPlace}
    (hv : Value.okWide Try.prog W rc b0 25 v) (h : DataW.Trod enc Try.prog W base sp hd 25 v d p) :
    ∃ (pages stack types : Int) (data : List UInt8) (cs : List Nat) (rs : List Rl) (starts : List Nat) (v1 v2 v3 : Value) (i j k B1 O1 C1 B2 O2 C2 B3 O3 C3 : Nat) (S1 S2 S3 : Option Nat),
      v = .agg ⟨[.int .i64 pages, .int .i64 stack, .int .i64 types, v1, .string ⟨⟨data⟩⟩, v2, v3]⟩ ∧ SlIs W v1 i (u32s cs) cs.length B1 O1 C1 S1 ∧ SlIs W v2 j (rels rs) rs.length B2 O2 C2 S2 ∧ SlIs W v3 k (u32s starts) starts.length B3 O3 C3 S3 ∧
      (∀ x ∈ cs, x < 4294967296) ∧ (∀ x ∈ rs, RlOk x) ∧ (∀ x ∈ starts, x < 4294967296) := by
  obtain ⟨l, rfl, hl, hf⟩ := open_agg_all Try.underlying25 (by kernel_rfl) (by kernel_rfl) hv h
  obtain ⟨u0, y0, m0, g0, t0⟩ := hf 0 _ rfl
  obtain ⟨u1, y1, m1, g1, t1⟩ := hf 1 _ rfl
  obtain ⟨u2, y2, m2, g2, t2⟩ := hf 2 _ rfl
  obtain ⟨u3, y3, m3, g3, t3⟩ := hf 3 _ rfl
  obtain ⟨u4, y4, m4, g4, t4⟩ := hf 4 _ rfl
  obtain ⟨u5, y5, m5, g5, t5⟩ := hf 5 _ rfl
  obtain ⟨u6, y6, m6, g6, t6⟩ := hf 6 _ rfl
  obtain ⟨pages, e0, _⟩ := DataW.trod_int Try.underlying3 t0
  obtain ⟨stack, e1, _⟩ := DataW.trod_int Try.underlying3 t1
  obtain ⟨types, e2, _⟩ := DataW.trod_int Try.underlying3 t2
  obtain ⟨str, e4, _⟩ := DataW.trod_string Try.underlying9 t4
  obtain ⟨i, cs, B1, O1, C1, S1, s1, n1⟩ := u32_slice Try.underlying22 Try.underlying27 (by kernel_rfl) t3
  obtain ⟨j, rs, B2, O2, C2, S2, s2, n2⟩ := rel_slice t5
  obtain ⟨k, starts, B3, O3, C3, S3, s3, n3⟩ := u32_slice Try.underlying22 Try.underlying27 (by kernel_rfl) t6
  simp only [List.cons.injEq, and_true] at e0 e1 e2 e4
  subst e0 e1 e2 e4
  obtain rfl := eq7 hl g0 g1 g2 g3 g4 g5 g6
  obtain ⟨⟨data⟩⟩ := str
  exact ⟨pages, stack, types, data, cs, rs, starts, u3, u5, u6, i, j, k, B1, O1, C1, B2, O2, C2, B3, O3, C3, S1, S2, S3, rfl, s1, s2, s3, n1, n2, n3⟩
theorem sl_form {k g n : Nat} (h : slOk k n) : ∃ (a : Option Addr) (c : Nat), sl k g n = .slice a n c := by
  obtain ⟨_, h2⟩ := h
  rcases k with _ | _ | k
  · obtain rfl := h2 (by omega); exact ⟨none, 0, rfl⟩
  · obtain rfl := h2 (by omega); exact ⟨some ⟨g, 0, some g⟩, big + g, rfl⟩
  · exact ⟨some ⟨g, 0, none⟩, big + g, rfl⟩
theorem inH_mem {i j k : Nat} {cs : List Nat} {rs : List Rl} {starts : List Nat} : ∀ x ∈ inH i j k cs rs starts, (x.1 = 64 ∨ x.1 = 65 ∨ x.1 = 66) ∧ x.2.rw = false ∧ x.2.op = some (0, 0) ∧ ∀ u ∈ x.2.cells, flat0 u = true := by
  have one : ∀ (k g : Nat) (cells : List Value), (∀ u ∈ cells, flat0 u = true) → ∀ x ∈ slH k g cells, x.1 = g ∧ x.2.rw = false ∧ x.2.op = some (0, 0) ∧ ∀ u ∈ x.2.cells, flat0 u = true := by
    intro k g cells hf x hx
    unfold slH at hx
    split at hx
    · cases hx
    · cases hx
    · obtain rfl := List.mem_singleton.1 hx
      exact ⟨rfl, rfl, rfl, hf⟩
  intro x hx
  unfold inH at hx
  rw [List.mem_append, List.mem_append] at hx
  rcases hx with (hx | hx) | hx
  · obtain ⟨e1, e⟩ := one _ _ _ (u32s_flat cs) x hx; exact ⟨.inl e1, e⟩
  · obtain ⟨e1, e⟩ := one _ _ _ (rels_flat rs) x hx; exact ⟨.inr (.inl e1), e⟩
  · obtain ⟨e1, e⟩ := one _ _ _ (u32s_flat starts) x hx; exact ⟨.inr (.inr e1), e⟩
theorem own_id (v : Value) (i j k : Nat) (pages stack types : Int) (data : List UInt8) (cs : List Nat) (rs : List Rl) (starts : List Nat) : InId 3 (ownC v (inH i j k cs rs starts) pages stack types data cs rs starts) := by
  refine ⟨fun x hx => ?_, fun x hx => ?_⟩
  · obtain ⟨e1, e2, e3, e4⟩ := inH_mem x hx
    refine ⟨by show x.1 < 67; omega, fun q hq => ?_, e2, fun u hu => okV_flat0 (e4 u hu) 3⟩
    rw [e3] at hq; cases hq; show 0 < 67; omega
  · simp only [ownC, ownH, List.mem_cons, List.not_mem_nil, or_false] at hx
    rcases hx with rfl | rfl | rfl
    · exact u32s_flat _
    · exact rels_flat _
    · exact u32s_flat _
/-- From a run to the walk of a law of one image. -/
theorem img_walk {call : CallK} (hcall : SoundCall Try.prog call) {f : FuncId} {W : World} {v1 v2 v3 : Value} {i j k : Nat} {pages stack types : Int} {data : List UInt8} {cs : List Nat} {rs : List Rl} {starts : List Nat} {B1 O1 C1 B2 O2 C2 B3 O3 C3 : Nat} {S1 S2 S3 : Option Nat}
    (h1 : SlIs W v1 i (u32s cs) cs.length B1 O1 C1 S1) (h2 : SlIs W v2 j (rels rs) rs.length B2 O2 C2 S2) (h3 : SlIs W v3 k (u32s starts) starts.length B3 O3 C3 S3)
    (run : ∃ (T : List (Nat × Bool)) (q : Prop), obs (call f [inV i j k pages stack types data cs rs starts] ⟨67, inH i j k cs rs starts, inLo cs rs starts, 0, T, 0, True⟩) = some (.bool true, q) ∧ q) :
    Calls Try.prog f #[.agg ⟨[.int .i64 pages, .int .i64 stack, .int .i64 types, v1, .string ⟨⟨data⟩⟩, v2, v3]⟩] W fun e W' => e = .returned (.bool true) ∧ Below W.heap.size W W' := by
  obtain ⟨T, q, hr, hq⟩ := run
  have hb : ∀ u ∈ [inV i j k pages stack types data cs rs starts], bnd (ren3 B1 O1 C1 S1 B2 O2 C2 S2 B3 O3 C3 S3).d u = true := fun u hu => by
    obtain rfl := List.mem_singleton.1 hu
    unfold inV
    rw [bnd_agg]
    have e1 : bnd (ren3 B1 O1 C1 S1 B2 O2 C2 S2 B3 O3 C3 S3).d (sl i 64 cs.length) = true := sl_bnd rfl
    have e2 : bnd (ren3 B1 O1 C1 S1 B2 O2 C2 S2 B3 O3 C3 S3).d (sl j 65 rs.length) = true := sl_bnd rfl
    have e3 : bnd (ren3 B1 O1 C1 S1 B2 O2 C2 S2 B3 O3 C3 S3).d (sl k 66 starts.length) = true := sl_bnd rfl
    rw [Array.all_eq_true_iff_forall_mem]
    intro u hu
    simp only [List.mem_toArray, List.mem_cons, List.not_mem_nil, or_false] at hu
    rcases hu with rfl | rfl | rfl | rfl | rfl | rfl | rfl
    · exact bnd_flat0 _ rfl
    · exact bnd_flat0 _ rfl
    · exact bnd_flat0 _ rfl
    · exact e1
    · exact bnd_flat0 _ rfl
    · exact e2
    · exact e3
  have hw : WFn ⟨67, inH i j k cs rs starts, inLo cs rs starts, 0, T, 0, True⟩ := ⟨fun g kb hk => by
    have := (inH_mem _ (look_mem hk)).1
    show g < 67
    simp only [] at this
    omega, fun x hx => by
    simp only [inLo, List.mem_cons, List.not_mem_nil, or_false] at hx
    show x.1 < 67
    rcases hx with rfl | rfl | rfl <;> simp⟩
  have hro : (inH i j k cs rs starts).all (fun y => !y.2.rw) = true := List.all_eq_true.2 fun x hx => by rw [(inH_mem x hx).2.1]; rfl
  have h := yes_ok hcall hr hq hw hro (in_good h1 h2 h3 T) (fun l hl => blt_no hl) hb
  have hv : (Value.agg ⟨[.int .i64 pages, .int .i64 stack, .int .i64 types, v1, .string ⟨⟨data⟩⟩, v2, v3]⟩) = (ren3 B1 O1 C1 S1 B2 O2 C2 S2 B3 O3 C3 S3).val (inV i j k pages stack types data cs rs starts) := by
    have e1 := sl_val (r := ren3 B1 O1 C1 S1 B2 O2 C2 S2 B3 O3 C3 S3) (g := 64) h1 rfl rfl rfl rfl
    have e2 := sl_val (r := ren3 B1 O1 C1 S1 B2 O2 C2 S2 B3 O3 C3 S3) (g := 65) h2 rfl rfl rfl rfl
    have e3 := sl_val (r := ren3 B1 O1 C1 S1 B2 O2 C2 S2 B3 O3 C3 S3) (g := 66) h3 rfl rfl rfl rfl
    unfold inV
    rw [val_agg]
    simp only [List.map_toArray, List.map_cons, List.map_nil, val_int, val_string, ← e1, ← e2, ← e3]
  rw [hv]
  exact h
end Go.Proofs.Ytdljpnebpoaeiaa
