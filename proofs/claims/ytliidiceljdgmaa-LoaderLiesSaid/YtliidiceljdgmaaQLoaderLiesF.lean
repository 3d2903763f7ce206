/-
  LoaderLies: the proof's last part: the statement holds, with no condition.
-/
import Derived.ChangeSlices
import Derived.OpenShut
import Derived.Test.YtliidiceljdgmaaQLoaderLiesE
namespace Go.Proofs.Ytliidiceljdgmaa
set_option linter.unusedVariables false
set_option linter.unusedSimpArgs false
set_option linter.unusedSectionVars false
open Go.ChangeShapes Go.WideShapes Go.Deep Go.RowKit
open Sy
structure SlIs (W : World) (v : Value) (k : Nat) (cells : List Value) (n B O C : Nat) (S : Option Nat) : Prop where
  is : v = (match k with | 0 => .slice none 0 0 | 1 => .slice (some ⟨B, O, S⟩) 0 C | _ => .slice (some ⟨B, O, none⟩) n C)
  ok : slOk k n
  le : n ≤ C
  at_ : 2 ≤ k → ∃ arr ty fr, W.heap[B]? = some (.cells arr ty fr) ∧ O + cells.length ≤ arr.size ∧ ∀ j v, cells[j]? = some v → arr[O + j]? = some v
section
variable {H : Type} {enc : TypeId × Value → H} {P : Program} {W : World} {base : Nat} {spare : Nat → Bool} {held : Bool}
theorem cell_is {a : Addr} {v : Value} (h : W.cell? a = some v) : ∃ arr ty fr, W.heap[a.block]? = some (.cells arr ty fr) ∧ arr[a.off]? = some v ∧ a.spot = none := by
  have hs := World.cell?_spot h
  unfold World.cell? at h
  split at h
  · rename_i c t f hb
    rw [hs] at h
    exact ⟨c, t, f, hb, by simpa using h, hs⟩
  · cases h
theorem add_off {a : Addr} (h : a.spot = none) (i : Nat) : (a.add i).block = a.block ∧ (a.add i).off = a.off + i := by
  obtain ⟨b, o, s⟩ := a
  subst h
  unfold Addr.add
  split <;> simp_all
theorem row_is {a : Addr} {cells : List Value} (h0 : 0 < cells.length) (h : ∀ i v, cells[i]? = some v → W.cell? (a.add i) = some v) : a.spot = none ∧ ∃ arr ty fr, W.heap[a.block]? = some (.cells arr ty fr) ∧ a.off + cells.length ≤ arr.size ∧ ∀ j v, cells[j]? = some v → arr[a.off + j]? = some v := by
  have h1 := h 0 _ (List.getElem?_eq_getElem h0)
  rw [show a.add 0 = a by unfold Addr.add; simp] at h1
  obtain ⟨arr, ty, fr, q1, q2, q3⟩ := cell_is h1
  have hat : ∀ j v, cells[j]? = some v → arr[a.off + j]? = some v := fun j v hj => by
    obtain ⟨arr', ty', fr', p1, p2, _⟩ := cell_is (h j v hj)
    obtain ⟨e1, e2⟩ := add_off q3 j
    rw [e1, q1] at p1
    cases p1
    rw [e2] at p2
    exact p2
  refine ⟨q3, arr, ty, fr, q1, ?_, hat⟩
  have := hat (cells.length - 1) _ (List.getElem?_eq_getElem (by omega))
  have := (Array.getElem?_eq_some_iff.1 this).1
  omega
theorem u32_slice {t e : TypeId} {fuel : Nat} {u : Value} {x : DataW H × List MemPlace} (ht : P.underlying t = some (.slice e)) (he : P.underlying e = some (.int .u32)) (hc : P.cellsOf e = 1)
    (h : DataW.trod enc P W base spare held fuel t [u] = some x) : ∃ (k : Nat) (xs : List Nat) (B O C : Nat) (S : Option Nat), SlIs W u k (u32s xs) xs.length B O C S ∧ ∀ y ∈ xs, y < 4294967296 := by
  rcases open_ints ht he hc h with ⟨h1, _⟩ | ⟨a, len, cap, zs, h1, _, hl, _, hz, _, hcell, hw⟩
  · simp only [List.cons.injEq, and_true] at h1
    exact ⟨0, [], 0, 0, 0, none, ⟨h1, ⟨by omega, fun _ => rfl⟩, Nat.le_refl _, fun h => by omega⟩, fun y hy => by cases hy⟩
  · simp only [List.cons.injEq, and_true] at h1
    subst h1
    have hlz : len ≤ zs.length := by rw [hz]; split <;> omega
    by_cases h0 : len = 0
    · subst h0
      obtain ⟨b, o, s⟩ := a
      exact ⟨1, [], b, o, cap, s, ⟨rfl, ⟨by omega, fun _ => rfl⟩, Nat.zero_le _, fun h => by omega⟩, fun y hy => by cases hy⟩
    · have hlen : ((zs.take len).map Int.toNat).length = len := by simp; omega
      have hget : ∀ i v, (u32s ((zs.take len).map Int.toNat))[i]? = some v → W.cell? (a.add i) = some v := by
        intro i v hv
        unfold u32s at hv
        rw [List.getElem?_map, List.getElem?_map, List.getElem?_take] at hv
        split at hv
        · rename_i hi
          rw [List.getElem?_eq_getElem (by omega)] at hv
          simp only [Option.map_some, Option.some.injEq] at hv
          have h2 := hcell i (by omega)
          have h3 : zs.getD i 0 = zs[i]'(by omega) := by rw [List.getD_eq_getElem?_getD, List.getElem?_eq_getElem (by omega)]; rfl
          rw [h3] at h2
          have h4 := wf_u32 (hw _ (List.getElem_mem (by omega : i < zs.length)))
          rw [h2, ← hv]
          congr 2
          exact (Int.toNat_of_nonneg h4.1).symm
        · cases hv
      have hul : (u32s ((zs.take len).map Int.toNat)).length = len := by unfold u32s; rw [List.length_map]; exact hlen
      obtain ⟨hs, hrow⟩ := row_is (a := a) (cells := u32s ((zs.take len).map Int.toNat)) (by omega) hget
      obtain ⟨b, o, s⟩ := a
      simp only at hs
      subst hs
      refine ⟨2, (zs.take len).map Int.toNat, b, o, cap, none, ⟨by rw [hlen]; rfl, ⟨by omega, fun h => by omega⟩, by rw [hlen]; exact hl, fun _ => hrow⟩, fun y hy => ?_⟩
      obtain ⟨z, hz', rfl⟩ := List.mem_map.1 hy
      have h4 := wf_u32 (hw z (List.mem_of_mem_take hz'))
      omega
end
instance : Inhabited Rl := ⟨⟨0, false, 0, 0, 0, 0⟩⟩
theorem rels_at : ∀ (rs : List Rl) (i j : Nat), i < rs.length → j < 6 → (rels rs)[i * 6 + j]? = (relC (rl0 rs i))[j]?
  | [], i, j, h, _ => by simp at h
  | x :: rs, 0, j, _, hj => by
    rw [rels_cons, List.getElem?_append_left (by simp only [relC, List.length_cons, List.length_nil]; omega)]
    simp [rl0]
  | x :: rs, i + 1, j, h, hj => by
    have hl : (relC x).length = 6 := rfl
    rw [rels_cons, List.getElem?_append_right (by rw [hl]; omega), hl, show (i + 1) * 6 + j - 6 = i * 6 + j by omega, rels_at rs i j (by simpa using h) hj]
    rfl
section
variable {H : Type} {enc : TypeId × Value → H} {W : World} {base : Nat} {spare : Nat → Bool} {held : Bool}
theorem rel_slice {fuel : Nat} {u : Value} {x : DataW H × List MemPlace} (h : DataW.trod enc Try.prog W base spare held fuel 23 [u] = some x) :
    ∃ (k : Nat) (rs : List Rl) (B O C : Nat) (S : Option Nat), SlIs W u k (rels rs) rs.length B O C S ∧ ∀ y ∈ rs, RlOk y := by
  rcases open_slice_fields Try.underlying23 Try.underlying42 (by kernel_rfl) (by kernel_rfl) h with ⟨h1, _⟩ | ⟨a, len, cap, m, D, Pl, h1, _, hl, _, hm, _, hi⟩
  · simp only [List.cons.injEq, and_true] at h1
    exact ⟨0, [], 0, 0, 0, none, ⟨h1, ⟨by omega, fun _ => rfl⟩, Nat.le_refl _, fun h => by omega⟩, fun y hy => by cases hy⟩
  · simp only [List.cons.injEq, and_true] at h1
    subst h1
    have hlm : len ≤ m := by rw [hm]; split <;> omega
    by_cases h0 : len = 0
    · subst h0
      obtain ⟨b, o, s⟩ := a
      exact ⟨1, [], b, o, cap, s, ⟨rfl, ⟨by omega, fun _ => rfl⟩, Nat.zero_le _, fun h => by omega⟩, fun y hy => by cases hy⟩
    · obtain ⟨R, hR⟩ := choose_lt (n := len) (α := Rl) (p := fun i r => RlOk r ∧ ∀ j v, (relC r)[j]? = some v → W.cell? (a.add (i * 6 + j)) = some v) (fun i hil => by
        obtain ⟨ys, n, _, _, _, hf⟩ := hi i (by omega)
        obtain ⟨v0, y0, c0, _, t0⟩ := hf 0 _ rfl
        obtain ⟨v1, y1, c1, _, t1⟩ := hf 1 _ rfl
        obtain ⟨v2, y2, c2, _, t2⟩ := hf 2 _ rfl
        obtain ⟨v3, y3, c3, _, t3⟩ := hf 3 _ rfl
        obtain ⟨v4, y4, c4, _, t4⟩ := hf 4 _ rfl
        obtain ⟨v5, y5, c5, _, t5⟩ := hf 5 _ rfl
        obtain ⟨n0, e0, _, w0⟩ := DataW.trod_int Try.underlying30 t0
        obtain ⟨n1, e1, _⟩ := DataW.trod_bool Try.underlying4 t1
        obtain ⟨n2, e2, _, w2⟩ := DataW.trod_int Try.underlying30 t2
        obtain ⟨n3, e3, _, w3⟩ := DataW.trod_int Try.underlying30 t3
        obtain ⟨n4, e4, _, w4⟩ := DataW.trod_int Try.underlying31 t4
        obtain ⟨n5, e5, _, w5⟩ := DataW.trod_int Try.underlying31 t5
        simp only [List.cons.injEq, and_true] at e0 e1 e2 e3 e4 e5
        subst e0 e1 e2 e3 e4 e5
        have b0 := wf_u32 w0
        have b2 := wf_u32 w2
        have b3 := wf_u32 w3
        have b4 := wf_u16 w4
        have b5 := wf_u16 w5
        refine ⟨⟨n0.toNat, n1, n2.toNat, n3.toNat, n4.toNat, n5.toNat⟩, ⟨by show n0.toNat < _; omega, by show n2.toNat < _; omega, by show n3.toNat < _; omega, by show n4.toNat < _; omega, by show n5.toNat < _; omega⟩, fun j v hj => ?_⟩
        have hj6 : j < 6 := (List.getElem?_eq_some_iff.1 hj).1
        have cc : ∀ z : Int, 0 ≤ z → ((z.toNat : Nat) : Int) = z := fun z hz => Int.toNat_of_nonneg hz
        unfold relC at hj
        simp only [cc n0 b0.1, cc n2 b2.1, cc n3 b3.1, cc n4 b4.1, cc n5 b5.1] at hj
        obtain rfl | rfl | rfl | rfl | rfl | rfl : j = 0 ∨ j = 1 ∨ j = 2 ∨ j = 3 ∨ j = 4 ∨ j = 5 := by omega
        all_goals
          simp at hj
          subst hj
          assumption)
      have hlen : ((List.range len).map R).length = len := by simp
      have h0r : ∀ i, i < len → rl0 ((List.range len).map R) i = R i := fun i hil => by
        unfold rl0; rw [List.getD_eq_getElem?_getD, List.getElem?_map, List.getElem?_range hil]; rfl
      have hget : ∀ q v, (rels ((List.range len).map R))[q]? = some v → W.cell? (a.add q) = some v := by
        intro q v hv
        have hq : q < len * 6 := by
          have := (List.getElem?_eq_some_iff.1 hv).1
          rw [rels_len, hlen] at this; exact this
        have e : q = q / 6 * 6 + q % 6 := by omega
        rw [e, rels_at _ _ _ (by rw [hlen]; omega) (Nat.mod_lt _ (by omega)), h0r _ (by omega)] at hv
        rw [e]
        exact (hR (q / 6) (by omega)).2 _ _ hv
      obtain ⟨hs, hrow⟩ := row_is (a := a) (cells := rels ((List.range len).map R)) (by rw [rels_len, hlen]; omega) hget
      obtain ⟨b, o, s⟩ := a
      simp only at hs
      subst hs
      refine ⟨2, (List.range len).map R, b, o, cap, none, ⟨by rw [hlen]; rfl, ⟨by omega, fun h => by omega⟩, by rw [hlen]; exact hl, fun _ => hrow⟩, fun y hy => ?_⟩
      obtain ⟨i, hi', rfl⟩ := List.mem_map.1 hy
      exact (hR i (by simpa using hi')).1
end
def ren3 (B1 O1 C1 : Nat) (S1 : Option Nat) (B2 O2 C2 : Nat) (S2 : Option Nat) (B3 O3 C3 : Nat) (S3 : Option Nat) : Ren :=
  ⟨fun l => if l < NG then l else if l = 64 then B1 else if l = 65 then B2 else B3, fun l => if l < NG then 0 else if l = 64 then O1 else if l = 65 then O2 else O3,
    fun l => if l = 64 then (O1, S1) else if l = 65 then (O2, S2) else (O3, S3), fun l => if l = 64 then C1 else if l = 65 then C2 else C3, fun l => Nat.blt l 67,
    fun _ h => if_pos h, fun _ h => if_pos h, fun l h => blt_yes (Nat.lt_trans h (by decide))⟩
theorem cap_big (r : Ren) (g : Nat) : r.cap (big + g) = r.c g := cap_letter r g
section
variable {r : Ren} {W : World} {v : Value} {k n B O C g : Nat} {S : Option Nat} {cells : List Value}
theorem sl_val (h : SlIs W v k cells n B O C S) (hb : r.b g = B) (hw : r.w g = O) (ho : r.o g = (O, S)) (hc : r.c g = C) : v = r.val (sl k g n) := by
  rw [h.is]
  rcases k with _ | _ | k
  · show Value.slice none 0 0 = r.val (.slice none 0 0)
    rw [val_slice]; simp only [Option.map_none, Ren.cap]; rfl
  · show Value.slice (some ⟨B, O, S⟩) 0 C = r.val (.slice (some ⟨g, 0, some g⟩) 0 (big + g))
    rw [val_slice, cap_big, hc]; simp [Ren.addr, hb, ho]
  · show Value.slice (some ⟨B, O, none⟩) n C = r.val (.slice (some ⟨g, 0, none⟩) n (big + g))
    rw [val_slice, cap_big, hc]; simp [Ren.addr, hb, hw]
theorem sl_bnd {d : Nat → Bool} (hd : d g = true) : bnd d (sl k g n) = true := by
  unfold sl
  split
  · exact bnd_flat0 _ rfl
  · rw [bnd_slice]; simp [bndA, hd]
  · rw [bnd_slice]; simp [bndA, hd]
theorem sl_block (h : SlIs W v k cells n B O C S) (hb : r.b g = B) (hw : r.w g = O) (hf : ∀ u ∈ cells, flat0 u = true) : ∀ x ∈ slH k g cells, x.1 = g ∧ x.2.rw = false ∧ x.2.op = some (0, 0) ∧ x.2.cells = cells ∧ Sy.Is r x.2 x.1 W := by
  intro x hx
  unfold slH at hx
  split at hx
  · cases hx
  · cases hx
  · rename_i k0 k1
    obtain rfl := List.mem_singleton.1 hx
    refine ⟨rfl, rfl, rfl, rfl, .inl ⟨rfl, ?_⟩⟩
    have hk2 : 2 ≤ k := by
      rcases Nat.lt_or_ge k 2 with h | h
      · have : k = 0 ∨ k = 1 := by omega
        rcases this with h | h
        · exact absurd h k0
        · exact absurd h k1
      · exact h
    obtain ⟨arr, ty, fr, p1, p2, p3⟩ := h.at_ hk2
    refine ⟨arr, ty, fr, by rw [hb]; exact p1, ⟨.inl rfl, by rw [hw]; exact p2⟩, fun j u hj => ?_, fun h => by cases h⟩
    rw [hw, val_flat0 r (hf u (List.mem_of_getElem? hj))]
    exact p3 j u hj
end
theorem in_good {W : World} {v1 v2 v3 : Value} {i j k : Nat} {cs : List Nat} {rs : List Rl} {starts : List Nat} {B1 O1 C1 B2 O2 C2 B3 O3 C3 : Nat} {S1 S2 S3 : Option Nat}
    (h1 : SlIs W v1 i (u32s cs) cs.length B1 O1 C1 S1) (h2 : SlIs W v2 j (rels rs) rs.length B2 O2 C2 S2) (h3 : SlIs W v3 k (u32s starts) starts.length B3 O3 C3 S3) (T : List (Nat × Bool)) :
    Sy.Good (ren3 B1 O1 C1 S1 B2 O2 C2 S2 B3 O3 C3 S3) ⟨67, inH i j k cs rs starts, inLo cs rs starts, 0, T, 0, True⟩ W := by
  have key : ∀ x ∈ inH i j k cs rs starts, (x.1 = 64 ∨ x.1 = 65 ∨ x.1 = 66) ∧ x.2.rw = false ∧ x.2.op = some (0, 0) ∧ (∀ u ∈ x.2.cells, flat0 u = true) ∧ Sy.Is (ren3 B1 O1 C1 S1 B2 O2 C2 S2 B3 O3 C3 S3) x.2 x.1 W := by
    intro x hx
    unfold inH at hx
    rw [List.mem_append, List.mem_append] at hx
    rcases hx with (hx | hx) | hx
    · obtain ⟨e1, e2, e3, e4, e5⟩ := sl_block (r := ren3 B1 O1 C1 S1 B2 O2 C2 S2 B3 O3 C3 S3) (g := 64) h1 rfl rfl (u32s_flat cs) x hx
      exact ⟨.inl e1, e2, e3, by rw [e4]; exact u32s_flat cs, e5⟩
    · obtain ⟨e1, e2, e3, e4, e5⟩ := sl_block (r := ren3 B1 O1 C1 S1 B2 O2 C2 S2 B3 O3 C3 S3) (g := 65) h2 rfl rfl (rels_flat rs) x hx
      exact ⟨.inr (.inl e1), e2, e3, by rw [e4]; exact rels_flat rs, e5⟩
    · obtain ⟨e1, e2, e3, e4, e5⟩ := sl_block (r := ren3 B1 O1 C1 S1 B2 O2 C2 S2 B3 O3 C3 S3) (g := 66) h3 rfl rfl (u32s_flat starts) x hx
      exact ⟨.inr (.inr e1), e2, e3, by rw [e4]; exact u32s_flat starts, e5⟩
  refine ⟨fun g k hk => (key _ (look_mem hk)).2.2.2.2, fun g g' k k' e1 e2 hrw _ => ?_, fun g k hk => ?_, fun x hx => ?_⟩
  · have := (key _ (look_mem e1)).2.1
    simp only [] at this
    rw [this] at hrw; cases hrw
  · obtain ⟨q1, _, q3, q4, _⟩ := key _ (look_mem hk)
    refine ⟨blt_yes (by simp only [] at q1; omega), fun p hp => ?_, fun u hu => ⟨bnd_flat0 _ (q4 u hu), flat0_oneCell (q4 u hu)⟩⟩
    simp only [] at q3
    rw [q3] at hp
    cases hp
    rfl
  · simp only [inLo, List.mem_cons, List.not_mem_nil, or_false] at hx
    rcases hx with rfl | rfl | rfl
    · exact ⟨h1.le, rfl⟩
    · exact ⟨h2.le, rfl⟩
    · exact ⟨h3.le, rfl⟩
theorem eq7 {l : List Value} {a b c d e f g : Value} (hl : l.length = 7) (h0 : l[0]? = some a) (h1 : l[1]? = some b) (h2 : l[2]? = some c) (h3 : l[3]? = some d) (h4 : l[4]? = some e) (h5 : l[5]? = some f) (h6 : l[6]? = some g) : l = [a, b, c, d, e, f, g] := by
  match l, hl with
  | [x0, x1, x2, x3, x4, x5, x6], _ =>
    simp only [List.getElem?_cons_zero, List.getElem?_cons_succ, Option.some.injEq] at h0 h1 h2 h3 h4 h5 h6
    subst h0 h1 h2 h3 h4 h5 h6
    rfl
set_option maxRecDepth 100000 in
theorem open_img {H : Type} {enc : TypeId × Value → H} {W : World} {base b0 : Nat} {rc : Reach} {sp : Nat → Bool} {hd : Bool} {v : Value} {d : DataW H} {p : List MemPlace}
    (hv : Value.okWide Try.prog W rc b0 25 v) (h : DataW.Trod enc Try.prog W base sp hd 25 v d p) :
    ∃ (pages stack types : Int) (data : List UInt8) (cs : List Nat) (rs : List Rl) (starts : List Nat) (v1 v2 v3 : Value) (i j k B1 O1 C1 B2 O2 C2 B3 O3 C3 : Nat) (S1 S2 S3 : Option Nat),
      v = .agg ⟨[.int .i64 pages, .int .i64 stack, .int .i64 types, v1, .string ⟨⟨data⟩⟩, v2, v3]⟩ ∧ SlIs W v1 i (u32s cs) cs.length B1 O1 C1 S1 ∧ SlIs W v2 j (rels rs) rs.length B2 O2 C2 S2 ∧ SlIs W v3 k (u32s starts) starts.length B3 O3 C3 S3 ∧
      (∀ x ∈ cs, x < 4294967296) ∧ (∀ x ∈ rs, RlOk x) ∧ (∀ x ∈ starts, x < 4294967296) := by
  obtain ⟨l, rfl, hl, hf⟩ := open_agg_all Try.underlying25 (by kernel_rfl) (by kernel_rfl) hv h
  obtain ⟨u0, y0, m0, g0, t0⟩ := hf 0 _ rfl
  obtain ⟨u1, y1, m1, g1, t1⟩ := hf 1 _ rfl
  obtain ⟨u2, y2, m2, g2, t2⟩ := hf 2 _ rfl
  obtain ⟨u3, y3, m3, g3, t3⟩ := hf 3 _ rfl
  obtain ⟨u4, y4, m4, g4, t4⟩ := hf 4 _ rfl
  obtain ⟨u5, y5, m5, g5, t5⟩ := hf 5 _ rfl
  obtain ⟨u6, y6, m6, g6, t6⟩ := hf 6 _ rfl
  obtain ⟨pages, e0, _⟩ := DataW.trod_int Try.underlying3 t0
  obtain ⟨stack, e1, _⟩ := DataW.trod_int Try.underlying3 t1
  obtain ⟨types, e2, _⟩ := DataW.trod_int Try.underlying3 t2
  obtain ⟨str, e4, _⟩ := DataW.trod_string Try.underlying9 t4
  obtain ⟨i, cs, B1, O1, C1, S1, s1, n1⟩ := u32_slice Try.underlying22 Try.underlying30 (by kernel_rfl) t3
  obtain ⟨j, rs, B2, O2, C2, S2, s2, n2⟩ := rel_slice t5
  obtain ⟨k, starts, B3, O3, C3, S3, s3, n3⟩ := u32_slice Try.underlying22 Try.underlying30 (by kernel_rfl) t6
  simp only [List.cons.injEq, and_true] at e0 e1 e2 e4
  subst e0 e1 e2 e4
  obtain rfl := eq7 hl g0 g1 g2 g3 g4 g5 g6
  obtain ⟨⟨data⟩⟩ := str
  exact ⟨pages, stack, types, data, cs, rs, starts, u3, u5, u6, i, j, k, B1, O1, C1, B2, O2, C2, B3, O3, C3, S1, S2, S3, rfl, s1, s2, s3, n1, n2, n3⟩
theorem sl_form {k g n : Nat} (h : slOk k n) : ∃ (a : Option Addr) (c : Nat), sl k g n = .slice a n c := by
  obtain ⟨_, h2⟩ := h
  rcases k with _ | _ | k
  · obtain rfl := h2 (by omega); exact ⟨none, 0, rfl⟩
  · obtain rfl := h2 (by omega); exact ⟨some ⟨g, 0, some g⟩, big + g, rfl⟩
  · exact ⟨some ⟨g, 0, none⟩, big + g, rfl⟩
theorem inH_mem {i j k : Nat} {cs : List Nat} {rs : List Rl} {starts : List Nat} : ∀ x ∈ inH i j k cs rs starts, (x.1 = 64 ∨ x.1 = 65 ∨ x.1 = 66) ∧ x.2.rw = false ∧ x.2.op = some (0, 0) ∧ ∀ u ∈ x.2.cells, flat0 u = true := by
  have one : ∀ (k g : Nat) (cells : List Value), (∀ u ∈ cells, flat0 u = true) → ∀ x ∈ slH k g cells, x.1 = g ∧ x.2.rw = false ∧ x.2.op = some (0, 0) ∧ ∀ u ∈ x.2.cells, flat0 u = true := by
    intro k g cells hf x hx
    unfold slH at hx
    split at hx
    · cases hx
    · cases hx
    · obtain rfl := List.mem_singleton.1 hx
      exact ⟨rfl, rfl, rfl, hf⟩
  intro x hx
  unfold inH at hx
  rw [List.mem_append, List.mem_append] at hx
  rcases hx with (hx | hx) | hx
  · obtain ⟨e1, e⟩ := one _ _ _ (u32s_flat cs) x hx; exact ⟨.inl e1, e⟩
  · obtain ⟨e1, e⟩ := one _ _ _ (rels_flat rs) x hx; exact ⟨.inr (.inl e1), e⟩
  · obtain ⟨e1, e⟩ := one _ _ _ (u32s_flat starts) x hx; exact ⟨.inr (.inr e1), e⟩
end Go.Proofs.Ytliidiceljdgmaa
namespace Go.Proofs.Ytliidiceljdgmaa
set_option linter.unusedVariables false
set_option linter.unusedSimpArgs false
set_option linter.unusedSectionVars false
open Go.ChangeShapes Go.WideShapes Go.ChangeAt Go.RowKit
open Sy
set_option maxRecDepth 100000
theorem img_walkS {call : CallK} (hcall : SoundCall Try.prog call) {f : FuncId} {W : World} {v1 v2 v3 : Value} {i j k : Nat} {pages stack types : Int} {data : List UInt8} {cs : List Nat} {rs : List Rl} {starts : List Nat} {B1 O1 C1 B2 O2 C2 B3 O3 C3 : Nat} {S1 S2 S3 : Option Nat}
    (h1 : SlIs W v1 i (u32s cs) cs.length B1 O1 C1 S1) (h2 : SlIs W v2 j (rels rs) rs.length B2 O2 C2 S2) (h3 : SlIs W v3 k (u32s starts) starts.length B3 O3 C3 S3) {hs : Sy.Heap} (hsub : ∀ g b, Sy.look hs g = some b → Sy.look (inH i j k cs rs starts) g = some b) (hro : hs.all (fun y => !y.2.rw) = true)
    (run : ∃ (T : List (Nat × Bool)) (q : Prop), obs (call f [inV i j k pages stack types data cs rs starts] ⟨67, hs, [], 0, T, 0, True⟩) = some (.bool true, q) ∧ q) :
    Calls Try.prog f #[.agg ⟨[.int .i64 pages, .int .i64 stack, .int .i64 types, v1, .string ⟨⟨data⟩⟩, v2, v3]⟩] W fun e W' => e = .returned (.bool true) ∧ Below W.heap.size W W' := by
  obtain ⟨T, q, hr, hq⟩ := run
  have hb : ∀ u ∈ [inV i j k pages stack types data cs rs starts], bnd (ren3 B1 O1 C1 S1 B2 O2 C2 S2 B3 O3 C3 S3).d u = true := fun u hu => by
    obtain rfl := List.mem_singleton.1 hu
    unfold inV
    rw [bnd_agg]
    have e1 : bnd (ren3 B1 O1 C1 S1 B2 O2 C2 S2 B3 O3 C3 S3).d (sl i 64 cs.length) = true := sl_bnd rfl
    have e2 : bnd (ren3 B1 O1 C1 S1 B2 O2 C2 S2 B3 O3 C3 S3).d (sl j 65 rs.length) = true := sl_bnd rfl
    have e3 : bnd (ren3 B1 O1 C1 S1 B2 O2 C2 S2 B3 O3 C3 S3).d (sl k 66 starts.length) = true := sl_bnd rfl
    rw [Array.all_eq_true_iff_forall_mem]
    intro u hu
    simp only [List.mem_toArray, List.mem_cons, List.not_mem_nil, or_false] at hu
    rcases hu with rfl | rfl | rfl | rfl | rfl | rfl | rfl
    · exact bnd_flat0 _ rfl
    · exact bnd_flat0 _ rfl
    · exact bnd_flat0 _ rfl
    · exact e1
    · exact bnd_flat0 _ rfl
    · exact e2
    · exact e3
  have hw : WFn ⟨67, hs, [], 0, T, 0, True⟩ := ⟨fun g kb hk => by
    have := (inH_mem _ (look_mem (hsub g kb hk))).1
    show g < 67
    simp only [] at this
    omega, fun x hx => by cases hx⟩
  have hg : Sy.Good (ren3 B1 O1 C1 S1 B2 O2 C2 S2 B3 O3 C3 S3) ⟨67, hs, [], 0, T, 0, True⟩ W :=
    (in_good h1 h2 h3 T).sub' (fun g b hk => ⟨b, hsub g b hk, .inl rfl, rfl, rfl, id⟩) (fun x hx => by cases hx)
  have h := yes_ok hcall hr hq hw hro hg (fun l hl => blt_no hl) hb
  have hv : (Value.agg ⟨[.int .i64 pages, .int .i64 stack, .int .i64 types, v1, .string ⟨⟨data⟩⟩, v2, v3]⟩) = (ren3 B1 O1 C1 S1 B2 O2 C2 S2 B3 O3 C3 S3).val (inV i j k pages stack types data cs rs starts) := by
    have e1 := sl_val (r := ren3 B1 O1 C1 S1 B2 O2 C2 S2 B3 O3 C3 S3) (g := 64) h1 rfl rfl rfl rfl
    have e2 := sl_val (r := ren3 B1 O1 C1 S1 B2 O2 C2 S2 B3 O3 C3 S3) (g := 65) h2 rfl rfl rfl rfl
    have e3 := sl_val (r := ren3 B1 O1 C1 S1 B2 O2 C2 S2 B3 O3 C3 S3) (g := 66) h3 rfl rfl rfl rfl
    unfold inV
    rw [val_agg]
    simp only [List.map_toArray, List.map_cons, List.map_nil, val_int, val_string, ← e1, ← e2, ← e3]
  rw [hv]
  exact h
theorem bytes_refl (d : List UInt8) : bytesEq d d = true := by rw [bytesEq_iff]; simp
theorem lw_con : ConOk Try.prog 10 3 lworksC ∧ FlatC lworksC := wRun_ok lworks_run
theorem ne_self (n : Int) : (n != n) = false := by simp
theorem lies_ok (p s t : Nat) (cs : List Nat) (d : List UInt8) (so : List Nat) (c da ds sa ss ha hs : Nat) (h : LdOk p s t cs d so c da ds sa ss ha hs) (hmod : c % 256 = 0) (a2 : Option Addr) (n2 c2 : Nat) (h1 : 1 ≤ so.length) (h4 : so.length ≤ 4) :
    ∃ (call : CallK) (T : List (Nat × Bool)) (q : Prop), SoundCall Try.prog call ∧ obs (call 5 [genI (p : Nat) (s : Nat) (t : Nat) d (some ⟨64, 0, none⟩) a2 (some ⟨66, 0, none⟩) cs.length n2 so.length (big + 64) c2 (big + 66)] ⟨67, ldH cs so, [], 0, T, 0, True⟩) = some (.bool true, q) ∧ q := by
  have e0 := h.hc; have e2 := h.hda; have e3 := h.hds; have e4 := h.hsa; have e5 := h.fit; have e6 := h.p2
  have hz := newA_ok p h.p1 h.p2
  have hzl : (codeZ cs cs.length (List.replicate (p * 256) 0)).length = p * 256 := by rw [codeZ_len _ _ _ (by rw [hz.len]; omega), hz.len]
  have hpl : da + d.length ≤ (codeZ cs cs.length (List.replicate (p * 256) 0)).length := by rw [hzl]; omega
  have hzE : (zsE p cs da d).length = p * 256 := by unfold zsE; rw [patA_len _ _ _ hpl, hzl]
  have har : ArOk (zsE p cs da d) (p * 256) (nGran p) (nWord p) := ⟨hzE, hz.tags, hz.words, hz.few, hz.big⟩
  have hll : LlOk cs (zsE p cs da d) (p * 256) (nGran p) (nWord p) := ⟨har, h.n1, by omega, fun k hk => by
    unfold zsE
    rw [numA_out _ _ _ hpl _ (by omega)]
    exact codeZ_num cs _ h.hcs cs.length k (Nat.le_refl _) (by rw [hz.len]; omega) hk⟩
  have hread : List.take d.length (List.drop da (zsE p cs da d)) = d := by unfold zsE; exact read_pat da d _ hpl
  have hmk : mP 0 c 5 = 5 := by unfold mP; rw [make0 c 5 hmod (by omega) (by omega)]; rfl
  have hmk' : ((mP 0 c 5 : Nat) : Int) = 5 := by rw [hmk]; rfl
  have f1 : ∀ (zs : List UInt8) (p : Nat → Bool), (u8s zs).all (okV p 3) = true := fun zs p => flat_all (u8s_flatA _)
  have f2 : ∀ (zs : List UInt8) (σ : Nat → Nat), (u8s zs).map (rnV σ 3) = u8s zs := fun zs σ => flat_map (u8s_flatA _)
  have f3 : ∀ (xs : List Nat) (p : Nat → Bool), (u32s xs).all (okV p 3) = true := fun xs p => flat_all (u32s_flat _)
  have f4 : ∀ (xs : List Nat) (σ : Nat → Nat), (u32s xs).map (rnV σ 3) = u32s xs := fun xs σ => flat_map (u32s_flat _)
  have hrd := rsA_con da d.length (zsE p cs da d) (p * 256) (nGran p) (nWord p) har (by omega) (by omega)
  have hso : ∀ k, k < so.length → IntKind.u32.wrap ((4 : Int) * ((so.getD k 0 : Nat) : Int)) = ((4 * so.getD k 0 : Nat) : Int) := fun k hk => by
    have hx : so.getD k 0 < 4096 := by
      rw [List.getD_eq_getElem?_getD, List.getElem?_eq_getElem hk]; exact h.hso _ (List.getElem_mem hk)
    rw [show (4 : Int) * ((so.getD k 0 : Nat) : Int) = ((4 * so.getD k 0 : Nat) : Int) by omega, w32A _ (by omega)]
  have base : ∀ j, ConOk Try.prog 12 3 (ldCon p s t cs d so c da ds sa j) → SoundCall Try.prog (baseF 3 (selSteps (lwL j p s t cs d so c da ds sa ss ha hs)) noBase) := fun j hl => by
    refine baseF_ok (selSteps_ok fun x hx => ?_) (noBase_ok _)
    simp only [lwL, List.mem_cons, List.not_mem_nil, or_false] at hx
    rcases hx with rfl | rfl | rfl | rfl
    · exact lw_con
    · exact ⟨hl, ldCon_flat p s t cs d so c da ds sa j⟩
    · exact ⟨h.lay, ⟨fun x hx => by cases hx⟩⟩
    · exact hrd
  have : so.length = 1 ∨ so.length = 2 ∨ so.length = 3 ∨ so.length = 4 := by omega
  rcases this with hj | hj | hj | hj
  · refine ⟨_, _, _, run_ok (L := 100) ar_names (base 1 (ld_con1 p s t cs d so c da ds sa ss ha hs h hj)) (lpEsc_ok _) 20, lies_1 p s t cs d so c da ds sa ss ha hs a2 n2 c2 hll, ?_⟩
    simp (disch := omega) only [lenT_eq, hread, bytes_refl, hmk', u32s_at, u32s_has', u32s_like, hso, f1, f2, f3, f4, z64_ok, z64_map, ne_self, hj, decide_eq_true, decide_eq_false, Bool.and_self, Bool.not_true, cond_true, and_true, true_and, and_self, Nat.le_refl]
    simp
  · refine ⟨_, _, _, run_ok (L := 100) ar_names (base 2 (ld_con2 p s t cs d so c da ds sa ss ha hs h hj)) (lpEsc_ok _) 20, lies_2 p s t cs d so c da ds sa ss ha hs a2 n2 c2 hll, ?_⟩
    simp (disch := omega) only [lenT_eq, hread, bytes_refl, hmk', u32s_at, u32s_has', u32s_like, hso, f1, f2, f3, f4, z64_ok, z64_map, ne_self, hj, decide_eq_true, decide_eq_false, Bool.and_self, Bool.not_true, cond_true, and_true, true_and, and_self, Nat.le_refl]
    simp
  · refine ⟨_, _, _, run_ok (L := 100) ar_names (base 3 (ld_con3 p s t cs d so c da ds sa ss ha hs h hj)) (lpEsc_ok _) 20, lies_3 p s t cs d so c da ds sa ss ha hs a2 n2 c2 hll, ?_⟩
    simp (disch := omega) only [lenT_eq, hread, bytes_refl, hmk', u32s_at, u32s_has', u32s_like, hso, f1, f2, f3, f4, z64_ok, z64_map, ne_self, hj, decide_eq_true, decide_eq_false, Bool.and_self, Bool.not_true, cond_true, and_true, true_and, and_self, Nat.le_refl]
    simp
  · refine ⟨_, _, _, run_ok (L := 100) ar_names (base 4 (ld_con4 p s t cs d so c da ds sa ss ha hs h hj)) (lpEsc_ok _) 20, lies_4 p s t cs d so c da ds sa ss ha hs a2 n2 c2 hll, ?_⟩
    simp (disch := omega) only [lenT_eq, hread, bytes_refl, hmk', u32s_at, u32s_has', u32s_like, hso, f1, f2, f3, f4, z64_ok, z64_map, ne_self, hj, decide_eq_true, decide_eq_false, Bool.and_self, Bool.not_true, cond_true, and_true, true_and, and_self, Nat.le_refl]
    simp
theorem err_arg {p s t : Int} {nc : Nat} {d : List UInt8} {so : List Nat} (he : errOf p s t nc d [] so = 0) : isLong nc d.length 0 so.length = false ∧ isArg p s t nc so.length = false ∧ isFar nc so = false ∧ layBig p s nc so.length d.length = false := by
  unfold errOf at he
  cases hl : isLong nc d.length 0 so.length <;> rw [show isLong nc d.length ([] : List Rl).length so.length = _ from hl] at he <;> try (simp at he; done)
  cases ha : isArg p s t nc so.length <;> rw [ha] at he <;> try (simp at he; done)
  cases hf : isFar nc so <;> rw [hf] at he <;> try (simp at he; done)
  cases hg : layBig p s nc so.length d.length <;> rw [hg] at he <;> try (simp at he; done)
  exact ⟨rfl, rfl, rfl, rfl⟩
theorem r256_is (n : Nat) : n ≤ r256 n ∧ r256 n % 256 = 0 ∧ r256 n ≤ n + 255 := by unfold r256; omega
theorem sl_okV {q : Nat → Bool} {d k g n : Nat} (h : q g = true) : okV q d (sl k g n) = true := by
  unfold sl
  split <;> cases d <;> simp [okV, bndA, h, flat0, big]
theorem lies_run (i j k : Nat) (p s t : Int) (d : List UInt8) (cs : List Nat) (rs : List Rl) (so : List Nat) (h1 : slOk i cs.length) (h2 : slOk j rs.length) (h3 : slOk k so.length) (n1 : ∀ x ∈ cs, x < 4294967296) (n3 : ∀ x ∈ so, x < 4294967296) :
    ∃ (call : CallK) (hs : Sy.Heap), SoundCall Try.prog call ∧ (∀ g b, Sy.look hs g = some b → Sy.look (inH i j k cs rs so) g = some b) ∧ hs.all (fun y => !y.2.rw) = true ∧ ∃ (T : List (Nat × Bool)) (q : Prop), obs (call 5 [inV i j k p s t d cs rs so] ⟨67, hs, [], 0, T, 0, True⟩) = some (.bool true, q) ∧ q := by
  obtain ⟨a1, c1, q1⟩ := sl_form (g := 64) h1
  obtain ⟨a2, c2, q2⟩ := sl_form (g := 65) h2
  obtain ⟨a3, c3, q3⟩ := sl_form (g := 66) h3
  have hself : ∀ e : Int, Value.bool (e == e) = .bool true := fun e => by simp
  by_cases h0 : isLong cs.length d.length 0 so.length = true ∨ cs.length = 0 ∨ so.length = 0
  · have hv : inV i j k p s t d cs rs so = genI p s t d a1 a2 a3 cs.length rs.length so.length c1 c2 c3 := by unfold inV genI; rw [q1, q2, q3]
    rw [hv]
    have hok : okV (fun l => Nat.blt l 67) 3 (genI p s t d a1 none a3 cs.length 0 so.length c1 0 c3) = true := by
      have b1 : okV (fun l => Nat.blt l 67) 2 (.slice a1 cs.length c1) = true := by rw [← q1]; exact sl_okV rfl
      have b3 : okV (fun l => Nat.blt l 67) 2 (.slice a3 so.length c3) = true := by rw [← q3]; exact sl_okV rfl
      show List.all [Value.int .i64 p, .int .i64 s, .int .i64 t, .slice a1 cs.length c1, .string ⟨⟨d⟩⟩, .slice none 0 0, .slice a3 so.length c3] (okV (fun l => Nat.blt l 67) 2) = true
      simp only [List.all_cons, List.all_nil, b1, b3, Bool.and_true, Bool.true_and]
      rfl
    have hl := layE_con p s t d a1 none a3 cs.length 0 so.length c1 0 c3 h0 hok
    obtain ⟨e, he⟩ : ∃ e : Int, (bif isLong cs.length d.length 0 so.length then (3 : Int) else 2) = e := ⟨_, rfl⟩
    have hne : (e != 0) = true := by rw [← he]; cases isLong cs.length d.length 0 so.length <;> rfl
    rw [he] at hl
    have hr := lle_g p s t d a1 a2 a3 cs.length rs.length so.length c1 c2 c3 e
    rw [hself e] at hr
    refine ⟨_, [], run_ok (L := 100) ar_names (baseT_ok (selStepsT_ok fun x hx => ?_) (noBase_ok _)) (noLoop_ok _) 20, fun g b hb => (by cases hb), rfl, _, _, hr, ?_⟩
    · simp only [leL, List.mem_cons, List.not_mem_nil, or_false] at hx
      rcases hx with rfl | rfl | rfl
      · exact ⟨lw_con.1, ⟨fun x hx => (by cases hx), fun x hx => (by cases hx)⟩⟩
      · exact ⟨hl, ⟨fun x hx => (by cases hx), fun x hx => (by cases hx)⟩⟩
      · exact ⟨hl, ⟨fun x hx => (by cases hx), fun x hx => (by cases hx)⟩⟩
    · simp only [hne, and_true, true_and, and_self]
  · have hi : i = 2 := by have := h1.1; have := h1.2; omega
    have hk : k = 2 := by have := h3.1; have := h3.2; omega
    subst hi hk
    have hv : inV 2 j 2 p s t d cs rs so = genI p s t d (some ⟨64, 0, none⟩) a2 (some ⟨66, 0, none⟩) cs.length rs.length so.length (big + 64) c2 (big + 66) := by unfold inV genI; rw [q2]; rfl
    rw [hv]
    have hlf : isLong cs.length d.length 0 so.length = false := by
      cases hb : isLong cs.length d.length 0 so.length
      · rfl
      · exact absurd (.inl hb) h0
    have hs4 : cs.length ≤ 4096 ∧ d.length ≤ 16384 ∧ so.length ≤ 4 := by
      simp [isLong] at hlf
      omega
    have hi : ImOk [] so := ⟨fun x hx => (by cases hx), n3, by omega⟩
    have hlay := layND_con p s t cs.length d so hi
    have look66 : ∀ g b, Sy.look [(66, (⟨false, some (0, 0), u32s so, none⟩ : Sy.Blk))] g = some b → Sy.look (inH 2 j 2 cs rs so) g = some b := fun g b hb => by
      rw [look_cons] at hb
      split at hb
      · rename_i hg; subst hg; rw [← hb]; unfold inH slH; rcases j with _ | _ | j <;> rfl
      · cases hb
    have look6 : ∀ g b, Sy.look (ldH cs so) g = some b → Sy.look (inH 2 j 2 cs rs so) g = some b := fun g b hb => by
      unfold ldH at hb
      rw [look_cons] at hb
      split at hb
      · rename_i hg; subst hg; rw [← hb]; unfold inH slH; rcases j with _ | _ | j <;> rfl
      · exact look66 g b hb
    by_cases he : errOf p s t cs.length d [] so = 0
    · obtain ⟨e1, e2, e3, e4⟩ := err_arg he
      have e2' := e2
      simp [isArg] at e2'
      obtain ⟨P, rfl⟩ := Int.eq_ofNat_of_zero_le (show 0 ≤ p by omega)
      obtain ⟨S, rfl⟩ := Int.eq_ofNat_of_zero_le (show 0 ≤ s by omega)
      obtain ⟨T, rfl⟩ := Int.eq_ofNat_of_zero_le (show 0 ≤ t by omega)
      have hL : ConOk Try.prog 16 3 (lyOkC (P : Nat) (S : Nat) (T : Nat) cs.length d so (r256 (4 * cs.length)) (r256 (4 * cs.length)) (r256 d.length) (r256 (4 * cs.length) + r256 d.length) (S * so.length) (layFrom S cs.length so.length d.length) (P * 256 - layFrom S cs.length so.length d.length)) := by
        have := hlay
        unfold layND layRes layV at this
        rw [he] at this
        exact this
      have hfar : ∀ x ∈ so, x < cs.length := fun x hx => by
        obtain ⟨n, hn, rfl⟩ := List.getElem_of_mem hx
        unfold isFar at e3
        have := List.any_eq_false.1 e3 n (List.mem_range.2 hn)
        simp [List.getD_eq_getElem?_getD, List.getElem?_eq_getElem hn] at this
        exact this
      have hbig : layFrom S cs.length so.length d.length + 256 ≤ P * 256 := by
        simp [layBig] at e4
        exact e4
      obtain ⟨r1, r2, r3⟩ := r256_is (4 * cs.length)
      obtain ⟨r4, r5, r6⟩ := r256_is d.length
      have hfrom : r256 (4 * cs.length) + r256 d.length ≤ layFrom S cs.length so.length d.length := by unfold layFrom; exact Nat.le_add_right _ _
      have hOk : LdOk P S T cs d so (r256 (4 * cs.length)) (r256 (4 * cs.length)) (r256 d.length) (r256 (4 * cs.length) + r256 d.length) (S * so.length) (layFrom S cs.length so.length d.length) (P * 256 - layFrom S cs.length so.length d.length) :=
        ⟨by omega, by omega, by omega, by omega, hs4.1, fun x hx => by have := hfar x hx; omega, n1, r1, rfl, r4, rfl, by omega, hL⟩
      obtain ⟨call, T', q, hc, hr, hq⟩ := lies_ok P S T cs d so _ _ _ _ _ _ _ hOk r2 a2 rs.length c2 (by omega) hs4.2.2
      exact ⟨call, ldH cs so, hc, look6, rfl, T', q, hr, hq⟩
    · obtain ⟨e, hE⟩ : ∃ e : Nat, errOf p s t cs.length d [] so = e := ⟨_, rfl⟩
      rw [hE] at he
      have hb0 : Nat.beq e 0 = false := by
        cases hb : Nat.beq e 0
        · rfl
        · exact absurd (Nat.eq_of_beq_eq_true hb) he
      have hL : ConOk Try.prog 16 3 (layEF p s t cs.length d so (e : Nat)) := by
        have := hlay
        unfold layND layRes layV at this
        rw [hE] at this
        simp only [pe, hb0, cond_false] at this
        exact this
      have hne : ((e : Int) != 0) = true := by simp; omega
      have hr := lle_f p s t d a2 cs.length rs.length c2 so (e : Nat)
      rw [hself (e : Int)] at hr
      have f3 : ∀ (xs : List Nat) (p : Nat → Bool), (u32s xs).all (okV p 3) = true := fun xs p => flat_all (u32s_flat _)
      have f4 : ∀ (xs : List Nat) (σ : Nat → Nat), (u32s xs).map (rnV σ 3) = u32s xs := fun xs σ => flat_map (u32s_flat _)
      refine ⟨_, [(66, ⟨false, some (0, 0), u32s so, none⟩)], run_ok (L := 100) ar_names (baseF_ok (selSteps_ok fun x hx => ?_) (noBase_ok _)) (noLoop_ok _) 20, look66, rfl, _, _, hr, ?_⟩
      · simp only [lfL, List.mem_cons, List.not_mem_nil, or_false] at hx
        rcases hx with rfl | rfl | rfl
        · exact lw_con
        · exact ⟨hL, ⟨fun x hx => (by cases hx)⟩⟩
        · exact ⟨hL, ⟨fun x hx => (by cases hx)⟩⟩
      · simp only [f3, f4, hne, and_true, true_and, and_self]
theorem loaderLies_law : LawWalk 5 Try.f5 := by
  intro H enc W base args ds p hval hA
  rw [Try.params5] at hA hval
  obtain ⟨v0, vs0, d0, ds0, p0, q0, hargs, rfl, rfl, h0, r0⟩ := trodAll_cons hA
  obtain ⟨rfl, rfl, rfl⟩ := trodAll_nil r0
  obtain rfl : args = #[v0] := by cases args; simp_all
  obtain ⟨pages, stack, types, data, cs, rs, starts, v1, v2, v3, i, j, k, B1, O1, C1, B2, O2, C2, B3, O3, C3, S1, S2, S3, rfl, s1, s2, s3, n1, n2, n3⟩ := open_img (hval 0 _ v0 rfl rfl) h0
  obtain ⟨call, hs, hc, hsub, hro, hr⟩ := lies_run i j k pages stack types data cs rs starts s1.ok s2.ok s3.ok n1 n3
  exact img_walkS hc s1 s2 s3 hsub hro hr
set_option maxRecDepth 100000 in
theorem loaderLies_proved : Rows.LoaderLiesSaid :=
  OpenClaim.holds_of_wide 5 Try.f5 rfl rfl rfl rfl rfl rfl rfl ⟨rfl, rfl, rfl, rfl, rfl⟩ rfl rfl rfl rfl rfl (by kernel_rfl) Try.func5 (by kernel_rfl)
    (of_decide_eq_true (by kernel_rfl)) (by unfold Func.isWrapper; first | (rw [if_pos (by decide +kernel)]; kernel_rfl) | (rw [if_neg (by decide +kernel)]; exact ⟨rfl, rfl⟩))
    (fun os started H enc _ => law_lifted 5 Try.f5 Rows.loaderLiesSpec Rows.loaderLiesRow.domain Try.func5 (by kernel_rfl) rfl rfl
      (fun H ds hd => by match ds, hd with | [d0], _ => exact ⟨rfl, rfl, rfl⟩) (by decide +kernel) loaderLies_law os started H enc
      (ChangeSpec.witness6 (enc := enc) (C := Try.checked) false ⟨#[], #[.agg #[.int .i64 0, .int .i64 0, .int .i64 0, .slice none 0 0, .string ByteArray.empty, .slice none 0 0, .slice none 0 0]], []⟩ 8 (by kernel_rfl) (by kernel_rfl) (by kernel_rfl) (by kernel_rfl)))
end Go.Proofs.Ytliidiceljdgmaa
#print axioms Go.Proofs.Ytliidiceljdgmaa.loaderLies_proved
