/-
  The abstract machine: what a world is to its letters; reading, making, writing.
-/
import Derived.Test.YtnnagaioiodniaaEngB
namespace Go.Proofs.Ytnnagaioiodniaa.Eng
open Go.RowKit

/-- What a block of letters is in a world. -/
def Is (r : Ren) (k : Blk) (g : Nat) (w : World) : Prop :=
  ∃ (arr : Array Value) (ty : TypeId) (fr : Nat × Nat), w.heap[r.b g]? = some (.cells arr ty fr) ∧
    (match k.op with | none => arr.size = k.cells.length | some p => arr.size = r.c p.1 * p.2 ∧ k.cells.length ≤ arr.size) ∧
    (∀ (j : Nat) (v : Value), k.cells[j]? = some v → arr[j]? = some (r.val v)) ∧ ∀ (j : Nat), j < arr.size → ¬ (fr.1 ≤ j ∧ j < fr.2)
def BlkB (n : Nat → Bool) (k : Blk) : Prop := (∀ p, k.op = some p → n p.1 = true) ∧ ∀ v ∈ k.cells, bnd n v = true ∧ v.oneCell' = true
/-- These letters stand for nothing. -/
def Fresh (r : Ren) (n n' : Nat) : Prop := ∀ g, n ≤ g → g < n' → r.d g = false

structure Good (r : Ren) (s : St) (w : World) : Prop where
  is : ∀ g k, look s.h g = some k → Is r k g w
  inj : ∀ g g' k k', look s.h g = some k → look s.h g' = some k' → r.b g = r.b g' → g = g'
  lt : ∀ g k, look s.h g = some k → r.d g = true ∧ BlkB r.d k
  lo : ∀ x ∈ s.lo, x.2 ≤ r.c x.1 ∧ r.d x.1 = true

/-- All letters in use are below the next. -/
def WFn (s : St) : Prop := (∀ g k, look s.h g = some k → g < s.n) ∧ ∀ x ∈ s.lo, x.1 < s.n
/-- Letters are only added; and what was asked stays asked. -/
def Mono (s s' : St) : Prop := s.n ≤ s'.n ∧ (s'.O → s.O) ∧ (WFn s → WFn s')
/-- From one world to a later one. -/
structure To (r : Ren) (s : St) (w : World) (r' : Ren) (s' : St) (w' : World) : Prop where
  ext : Ext r r'
  dom : ∀ g, r'.d g = true → r.d g = true ∨ (s.n ≤ g ∧ g < s'.n)
  le : s.n ≤ s'.n
  good0 : Good r s w
  good : Good r' s' w'
  os : w'.os = w.os
  tape : w'.tape = w.tape
  output : w'.output = w.output
  size : w.heap.size ≤ w'.heap.size
  frame : ∀ b, b < w.heap.size → (∀ g k, look s.h g = some k → k.rw = true → r.b g ≠ b) → w'.heap[b]? = w.heap[b]?
  own : ∀ g k, look s'.h g = some k → (∃ k0, look s.h g = some k0 ∧ (k.rw = true → k0.rw = true)) ∨ w.heap.size ≤ r'.b g ∨ ∃ g0 k0, look s.h g0 = some k0 ∧ k0.rw = true ∧ r.b g0 = r'.b g

section
variable {r r1 r2 : Ren} {s s1 s2 : St} {w w1 w2 : World}
theorem To.refl (h : Good r s w) : To r s w r s w :=
  ⟨Ext.refl _, fun _ h => .inl h, Nat.le_refl _, h, h, rfl, rfl, rfl, Nat.le_refl _, fun _ _ _ => rfl, fun _ k hg => .inl ⟨k, hg, id⟩⟩
theorem To.trans (h : To r s w r1 s1 w1) (h' : To r1 s1 w1 r2 s2 w2) : To r s w r2 s2 w2 := by
  refine ⟨h.ext.trans h'.ext, fun g hg => ?_, Nat.le_trans h.le h'.le, h.good0, h'.good, h'.os.trans h.os, h'.tape.trans h.tape, h'.output.trans h.output, Nat.le_trans h.size h'.size, ?_, ?_⟩
  · rcases h'.dom g hg with h1 | h1
    · rcases h.dom g h1 with h2 | h2
      · exact .inl h2
      · have := h'.le; exact .inr ⟨h2.1, by omega⟩
    · have := h.le; exact .inr ⟨by omega, h1.2⟩
  · intro b hb hn
    refine (h'.frame b (Nat.lt_of_lt_of_le hb h.size) ?_).trans (h.frame b hb hn)
    intro g k hg hk e
    rcases h.own g k hg with ⟨k0, h1, h2⟩ | h1 | ⟨g0, k0, h1, h2, h3⟩
    · exact hn g k0 h1 (h2 hk) ((h.ext.b g (h.good0.lt g k0 h1).1).symm.trans e)
    · omega
    · exact hn g0 k0 h1 h2 (h3.trans e)
  · intro g k hg
    rcases h'.own g k hg with ⟨k1, h1, h2⟩ | h1 | ⟨g0, k0, h1, h2, h3⟩
    · have he : r2.b g = r1.b g := h'.ext.b g (h.good.lt g k1 h1).1
      rcases h.own g k1 h1 with ⟨k0, h3, h4⟩ | h3 | ⟨g0, k0, h3, h4, h5⟩
      · exact .inl ⟨k0, h3, fun hk => h4 (h2 hk)⟩
      · exact .inr (.inl (by omega))
      · exact .inr (.inr ⟨g0, k0, h3, h4, h5.trans he.symm⟩)
    · exact .inr (.inl (Nat.le_trans h.size h1))
    · rcases h.own g0 k0 h1 with ⟨k00, h4, h5⟩ | h4 | ⟨g00, k00, h4, h5, h6⟩
      · exact .inr (.inr ⟨g0, k00, h4, h5 h2, (h.ext.b g0 (h.good0.lt g0 k00 h4).1).symm.trans h3⟩)
      · exact .inr (.inl (by omega))
      · exact .inr (.inr ⟨g00, k00, h4, h5, h6.trans h3⟩)
/-- The same letters: other answers. -/
theorem Good.same (h : Good r s w) (hh : s1.h = s.h) (hl : s1.lo = s.lo) : Good r s1 w :=
  ⟨by rw [hh]; exact h.is, by rw [hh]; exact h.inj, by rw [hh]; exact h.lt, by rw [hl]; exact h.lo⟩
theorem Fresh.sub {n m n' m' : Nat} (h : Fresh r n m) (h1 : n ≤ n') (h2 : m' ≤ m) : Fresh r n' m' := fun _ hg hl => h _ (by omega) (by omega)
/-- Behind a step the letters to come stand for nothing still. -/
theorem To.fresh {n : Nat} (h : To r s w r1 s1 w1) (hf : Fresh r s.n n) : Fresh r1 s1.n n := fun g hg hl => by
  cases hd : r1.d g
  · rfl
  · rcases h.dom g hd with h1 | h1
    · have := h.le; rw [hf g (by omega) hl] at h1; cases h1
    · omega
theorem To.same (h : Good r s w) (hn : s1.n = s.n) (hh : s1.h = s.h) (hl : s1.lo = s.lo) : To r s w r s1 w :=
  ⟨Ext.refl _, fun _ h => .inl h, Nat.le_of_eq hn.symm, h, h.same hh hl, rfl, rfl, rfl, Nat.le_refl _, fun _ _ _ => rfl, fun g k hg => .inl ⟨k, by rw [← hh]; exact hg, id⟩⟩
theorem test_all (t : Bool) (s : St) : (test t s).2.n = s.n ∧ (test t s).2.h = s.h ∧ (test t s).2.lo = s.lo ∧ (test t s).2.esc = s.esc ∧ ((test t s).2.O → s.O ∧ (test t s).1 = t) := by
  unfold test
  split
  · exact ⟨rfl, rfl, rfl, rfl, fun h => ⟨h, rfl⟩⟩
  · rename_i c T _
    cases Nat.beq c.1 s.k
    · exact ⟨rfl, rfl, rfl, rfl, fun h => ⟨h, rfl⟩⟩
    · exact ⟨rfl, rfl, rfl, rfl, fun h => ⟨h.1, h.2.symm⟩⟩
theorem test_n (t : Bool) (s : St) : (test t s).2.n = s.n := (test_all t s).1
theorem test_h (t : Bool) (s : St) : (test t s).2.h = s.h := (test_all t s).2.1
theorem test_lo (t : Bool) (s : St) : (test t s).2.lo = s.lo := (test_all t s).2.2.1
theorem test_esc (t : Bool) (s : St) : (test t s).2.esc = s.esc := (test_all t s).2.2.2.1
theorem test_ob (t : Bool) (s : St) (h : (test t s).2.O) : s.O := ((test_all t s).2.2.2.2 h).1
theorem test_eq (t : Bool) (s : St) (h : (test t s).2.O) : (test t s).1 = t := ((test_all t s).2.2.2.2 h).2
theorem To.test (h : Good r s w) (t : Bool) : To r s w r (test t s).2 w := .same h (test_n t s) (test_h t s) (test_lo t s)
theorem ask_n (t : Bool) (s : St) : (ask t s).2.n = s.n := rfl
theorem ask_h (t : Bool) (s : St) : (ask t s).2.h = s.h := rfl
theorem ask_lo (t : Bool) (s : St) : (ask t s).2.lo = s.lo := rfl
theorem ask_ob (t : Bool) (s : St) (h : (ask t s).2.O) : s.O := by
  cases t
  · exact False.elim h
  · exact h
theorem ask_eq (t : Bool) (s : St) (h : (ask t s).2.O) : (ask t s).1 = t := by
  cases t
  · exact False.elim h
  · rfl
theorem ask_is (t : Bool) (s : St) (h : (ask t s).2.O) : t = true := (ask_eq t s h).symm
theorem To.ask (h : Good r s w) (t : Bool) : To r s w r (ask t s).2 w := .same h rfl rfl rfl
theorem Good.of_lo (h : Good r s w) (k : Nat) : loOf s.lo k ≤ r.c k := by
  have hl := h.lo
  generalize s.lo = l at hl
  induction l with
  | nil => simp [loOf]
  | cons x l ih =>
    simp only [loOf]
    cases hx : Nat.beq x.1 k
    · exact ih fun y hy => hl y (List.mem_cons_of_mem _ hy)
    · have := Nat.eq_of_beq_eq_true hx
      subst this
      exact (hl x (List.mem_cons_self ..)).1
theorem Good.cap (h : Good r s w) (c : Nat) : capLo s c ≤ r.cap c := by
  unfold capLo Ren.cap
  cases Nat.blt c big
  · exact h.of_lo _
  · exact Nat.le_refl _
end

theorem add_plain (b o n : Nat) : (⟨b, o, none⟩ : Addr).add n = ⟨b, o + n, none⟩ := by
  unfold Addr.add
  split
  · rename_i h; subst h; rfl
  · rfl
theorem addr_plain (r : Ren) (a : Addr) (h : a.spot = none) : r.addr a = ⟨r.b a.block, a.off, none⟩ := by
  unfold Ren.addr; rw [h]
theorem addr_add (r : Ren) (a : Addr) (n : Nat) (h : a.spot = none) : r.addr (a.add n) = (r.addr a).add n := by
  have : a = ⟨a.block, a.off, none⟩ := by cases a; simp at h; subst h; rfl
  rw [this, add_plain, addr_plain r _ rfl, addr_plain r _ rfl, add_plain]

section
variable {P : Program} {r : Ren} {s s' : St} {w : World}
theorem Is.cell {k : Blk} {g : Nat} (h : Is r k g w) {j : Nat} {v : Value} (hv : k.cells[j]? = some v) : w.cell? ⟨r.b g, j, none⟩ = some (r.val v) := by
  obtain ⟨arr, ty, fr, h1, _, h3, _⟩ := h
  unfold World.cell?
  simp only [h1, Option.isSome_none, Bool.false_eq_true, if_false]
  exact h3 j v hv
theorem Is.lt {k : Blk} {g : Nat} (h : Is r k g w) : r.b g < w.heap.size := by
  obtain ⟨arr, ty, fr, h1, _⟩ := h
  rcases Nat.lt_or_ge (r.b g) w.heap.size with hl | hl
  · exact hl
  · rw [Array.getElem?_eq_none hl] at h1; cases h1

theorem rdCells_ok {a : Addr} {n : Nat} {l : List Value} (h : rdCells s a n = some l) (hg : Good r s w) :
    (loadCells (r.addr a) n).run P w = .ok (l.map r.val).toArray w ∧ l.length = n ∧ a.spot = none ∧ ∀ v ∈ l, bnd r.d v = true ∧ v.oneCell' = true := by
  unfold rdCells at h
  cases hs : a.spot with
  | some _ => rw [hs] at h; cases h
  | none =>
    rw [hs] at h
    simp only [] at h
    obtain ⟨k, hk, h⟩ := Option.bind_eq_some_iff.1 h
    cases hn : hasN (a.off + n) k.cells
    · rw [hn] at h; cases h
    rw [hn] at h
    simp only [cond_true, Option.some.injEq] at h
    subst h
    rw [hasN_iff] at hn
    have hl : ((k.cells.drop a.off).take n).length = n := by simp; omega
    refine ⟨?_, hl, rfl, ?_⟩
    · rw [addr_plain r a hs]
      have := run_loadCells_list (P := P) w ⟨r.b a.block, a.off, none⟩ (((k.cells.drop a.off).take n).map r.val) (fun j v hj => by
        rw [add_plain]
        rw [List.getElem?_map, Option.map_eq_some_iff] at hj
        obtain ⟨u, hu, rfl⟩ := hj
        rw [List.getElem?_take] at hu
        split at hu
        · rw [List.getElem?_drop] at hu
          exact (hg.is _ _ hk).cell hu
        · cases hu)
      rw [List.length_map, hl] at this
      exact this
    · intro v hv
      exact (hg.lt _ _ hk).2.2 v (List.mem_of_mem_drop (List.mem_of_mem_take hv))

/-- The letters behind one more block. -/
def Ren.with (r : Ren) (n b c : Nat) : Ren := ⟨fun g => if g = n then b else r.b g, r.o, fun g => if g = n then c else r.c g, fun g => Nat.beq g n || r.d g⟩
theorem Ren.with_b (r : Ren) (n b c : Nat) : (r.with n b c).b n = b := by simp [Ren.with]
theorem Ren.with_c (r : Ren) (n b c : Nat) : (r.with n b c).c n = c := by simp [Ren.with]
theorem Ren.with_d (r : Ren) (n b c : Nat) : (r.with n b c).d n = true := by simp [Ren.with]
theorem ne_of_d {r : Ren} {n g : Nat} (h : r.d n = false) (hg : r.d g = true) : g ≠ n := fun e => by rw [e, h] at hg; cases hg
theorem Ren.with_ext {r : Ren} {n : Nat} (h : r.d n = false) (b c : Nat) : Ext r (r.with n b c) :=
  ⟨fun g hg => by simp [Ren.with, hg], fun g hg => if_neg (ne_of_d h hg), fun g _ => rfl, fun g hg => if_neg (ne_of_d h hg)⟩
theorem Ren.with_dom {r : Ren} {n b c g : Nat} (h : (r.with n b c).d g = true) : r.d g = true ∨ (n ≤ g ∧ g < n + 1) := by
  simp only [Ren.with, Bool.or_eq_true] at h
  rcases h with h | h
  · have := Nat.eq_of_beq_eq_true h; exact .inr (by omega)
  · exact .inl h

theorem Is.ext {r' : Ren} {k : Blk} {g : Nat} {w' : World} (h : Is r k g w) (he : Ext r r') (hg : r.d g = true) (hk : BlkB r.d k) (hw : w'.heap[r.b g]? = w.heap[r.b g]?) : Is r' k g w' := by
  obtain ⟨arr, ty, fr, h1, h2, h3, h4⟩ := h
  refine ⟨arr, ty, fr, ?_, ?_, ?_, h4⟩
  · rw [he.b g hg, hw]; exact h1
  · cases hop : k.op with
    | none => rw [hop] at h2; exact h2
    | some p => rw [hop] at h2; simp only [] at h2 ⊢; rw [he.c p.1 (hk.1 p hop)]; exact h2
  · intro j v hj
    rw [val_ext he v (hk.2 v (List.mem_of_getElem? hj)).1]
    exact h3 j v hj
theorem BlkB.mono {n m : Nat → Bool} {k : Blk} (h : BlkB n k) (hm : ∀ g, n g = true → m g = true) : BlkB m k :=
  ⟨fun p hp => hm _ (h.1 p hp), fun v hv => ⟨bnd_mono hm v (h.2 v hv).1, (h.2 v hv).2⟩⟩

/-- A new block. -/
theorem to_new (hg : Good r s w) (hfr : r.d s.n = false) (op : Option (Nat × Nat)) (cells : List Value) (arr : Array Value) (ty : TypeId) (fr : Nat × Nat) (c d : Nat)
    (lo : List (Nat × Nat)) (hlo : lo = s.lo ∨ ∃ m, lo = (s.n, m) :: s.lo ∧ m ≤ c)
    (hb : ∀ v ∈ cells, bnd r.d v = true ∧ v.oneCell' = true)
    (hop : (op = none ∧ arr.size = cells.length) ∨ ∃ sz, op = some (s.n, sz) ∧ arr.size = c * sz ∧ cells.length ≤ arr.size)
    (hc : ∀ (j : Nat) (v : Value), cells[j]? = some v → arr[j]? = some (r.val v)) (hf : ∀ (j : Nat), j < arr.size → ¬ (fr.1 ≤ j ∧ j < fr.2)) (esc : Nat) :
    To r s w (r.with s.n w.heap.size c) { newBlk s op cells with lo := lo, esc := esc } { w with heap := w.heap.push (.cells arr ty fr), drawn := d } := by
  have he := Ren.with_ext hfr w.heap.size c
  have hold : ∀ g k, look s.h g = some k → ({ w with heap := w.heap.push (.cells arr ty fr), drawn := d } : World).heap[r.b g]? = w.heap[r.b g]? := by
    intro g k hk
    have := (hg.is g k hk).lt
    show (w.heap.push _)[r.b g]? = _
    rw [Array.getElem?_push, if_neg (by omega)]
  have hlk : ∀ g k, look ((s.n, (⟨true, op, cells⟩ : Blk)) :: s.h) g = some k → (g = s.n ∧ k = ⟨true, op, cells⟩) ∨ (g ≠ s.n ∧ look s.h g = some k) := by
    intro g k hk
    rw [look_cons] at hk
    split at hk
    · rename_i e; exact .inl ⟨e, (Option.some.inj hk).symm⟩
    · rename_i e; exact .inr ⟨e, hk⟩
  refine ⟨he, fun g hg => Ren.with_dom hg, Nat.le_succ _, hg, ⟨?_, ?_, ?_, ?_⟩, rfl, rfl, rfl, by simp, ?_, ?_⟩
  · intro g k hk
    rcases hlk g k hk with ⟨rfl, rfl⟩ | ⟨hne, hk⟩
    · refine ⟨arr, ty, fr, ?_, ?_, ?_, hf⟩
      · rw [Ren.with_b]
        show (w.heap.push _)[w.heap.size]? = _
        simp
      · rcases hop with ⟨rfl, h⟩ | ⟨sz, rfl, h1, h2⟩
        · exact h
        · simp only [Ren.with_c]; exact ⟨h1, h2⟩
      · intro j v hj
        rw [val_ext he v (hb v (List.mem_of_getElem? hj)).1]
        exact hc j v hj
    · exact (hg.is g k hk).ext he (hg.lt g k hk).1 (hg.lt g k hk).2 (hold g k hk)
  · intro g g' k k' h1 h2 h3
    rcases hlk g k h1 with ⟨rfl, rfl⟩ | ⟨hne, hk⟩ <;> rcases hlk g' k' h2 with ⟨rfl, rfl⟩ | ⟨hne', hk'⟩
    · rfl
    · rw [Ren.with_b, he.b g' (hg.lt g' k' hk').1] at h3
      have := (hg.is g' k' hk').lt
      omega
    · rw [Ren.with_b, he.b g (hg.lt g k hk).1] at h3
      have := (hg.is g k hk).lt
      omega
    · rw [he.b g (hg.lt g k hk).1, he.b g' (hg.lt g' k' hk').1] at h3
      exact hg.inj g g' k k' hk hk' h3
  · intro g k hk
    rcases hlk g k hk with ⟨rfl, rfl⟩ | ⟨hne, hk⟩
    · refine ⟨Ren.with_d _ _ _ _, fun p hp => ?_, fun v hv => ⟨bnd_mono he.d v (hb v hv).1, (hb v hv).2⟩⟩
      rcases hop with ⟨rfl, _⟩ | ⟨sz, rfl, _⟩
      · cases hp
      · cases hp; exact Ren.with_d _ _ _ _
    · exact ⟨he.d g (hg.lt g k hk).1, (hg.lt g k hk).2.mono he.d⟩
  · intro x hx
    have hx' : x ∈ s.lo → x.2 ≤ (r.with s.n w.heap.size c).c x.1 ∧ (r.with s.n w.heap.size c).d x.1 = true := fun h => by
      have := hg.lo x h
      rw [he.c x.1 this.2]
      exact ⟨this.1, he.d _ this.2⟩
    rcases hlo with rfl | ⟨m, rfl, hm⟩
    · exact hx' hx
    · rcases List.mem_cons.1 hx with rfl | hx
      · exact ⟨by rw [Ren.with_c]; exact hm, Ren.with_d _ _ _ _⟩
      · exact hx' hx
  · intro b hb _
    show (w.heap.push _)[b]? = _
    rw [Array.getElem?_push, if_neg (by omega)]
  · intro g k hk
    rcases hlk g k hk with ⟨rfl, rfl⟩ | ⟨hne, hk⟩
    · exact .inr (.inl (by rw [Ren.with_b]; exact Nat.le_refl _))
    · exact .inl ⟨k, hk, id⟩
theorem to_new0 (hg : Good r s w) (hfr : r.d s.n = false) (cells : List Value) (ty : TypeId) (hb : ∀ v ∈ cells, bnd r.d v = true ∧ v.oneCell' = true) :
    To r s w (r.with s.n w.heap.size 0) (newBlk s none cells) { w with heap := w.heap.push (.cells (cells.map r.val).toArray ty) } := by
  have := to_new hg hfr none cells (cells.map r.val).toArray ty (0, 0) 0 w.drawn s.lo (.inl rfl) hb (.inl ⟨rfl, by simp⟩) (fun j v hj => by simp [hj]) (fun j _ h => by simp at h) s.esc
  exact this
end

theorem set_same (xs : Array Obj) (b : Nat) (o : Obj) (h : xs[b]? = some o) : xs.setIfInBounds b o = xs := by
  apply Array.ext_getElem?
  intro i
  rw [Array.getElem?_setIfInBounds]
  split
  · rename_i e; subst e
    split
    · exact h.symm
    · rename_i hlt; rw [Array.getElem?_eq_none (by omega)] at h; cases h
  · rfl
theorem setCell_blk (w : World) (b off : Nat) (v : Value) (arr : Array Value) (ty : TypeId) (fr : Nat × Nat) (h : w.heap[b]? = some (.cells arr ty fr)) :
    w.setCell ⟨b, off, none⟩ v = { w with heap := w.heap.setIfInBounds b (.cells (arr.setIfInBounds off v) ty fr) } := by
  unfold World.setCell
  congr 1
  apply Array.ext_getElem?
  intro i
  rw [Array.getElem?_modify, Array.getElem?_setIfInBounds]
  by_cases hi : b = i
  · subst hi
    simp only [if_true, h, Option.map_some, Option.isSome_none, Bool.false_eq_true, if_false]
    split
    · rfl
    · rename_i hlt; rw [Array.getElem?_eq_none (by omega)] at h; cases h
  · simp [hi]
theorem run_storeCells_blk (P : Program) (b off : Nat) (ty : TypeId) (fr : Nat × Nat) : ∀ (vs : List Value) (i : Nat) (arr : Array Value) (w : World),
    w.heap[b]? = some (.cells arr ty fr) → off + i + vs.length ≤ arr.size → (∀ v ∈ vs, v.oneCell' = true) → (∀ j, j < arr.size → ¬ (fr.1 ≤ j ∧ j < fr.2)) →
    ∃ arr' : Array Value, (storeCells ⟨b, off, none⟩ vs i).run P w = .ok () { w with heap := w.heap.setIfInBounds b (.cells arr' ty fr) } ∧ arr'.size = arr.size ∧
      ∀ j : Nat, arr'[j]? = if off + i ≤ j ∧ j < off + i + vs.length then vs[j - (off + i)]? else arr[j]?
  | [], i, arr, w, h, _, _, _ => ⟨arr, by simp [storeCells, set_same _ _ _ h], rfl, fun j => by rw [if_neg (by simp)]⟩
  | v :: vs, i, arr, w, h, hl, h1, hf => by
    simp only [List.length_cons] at hl
    have hlt : off + i < arr.size := by omega
    have hb : b < w.heap.size := by
      rcases Nat.lt_or_ge b w.heap.size with hb | hb
      · exact hb
      · rw [Array.getElem?_eq_none hb] at h; cases h
    have hc : w.cell? ⟨b, off + i, none⟩ = some arr[off + i] := by
      unfold World.cell?
      simp [h, hlt]
    have hz : w.frozen? ⟨b, off + i, none⟩ = false := by
      unfold World.frozen?
      simp only [h]
      have := hf (off + i) hlt
      cases h1 : decide (fr.1 ≤ off + i) <;> simp_all
    have hs : (store ((⟨b, off, none⟩ : Addr).add i) v).run P w = .ok () (w.setCell ⟨b, off + i, none⟩ v) := by
      rw [add_plain, run_store P w _ v .plain (h1 v (List.mem_cons_self ..)), hc]
      simp only [hz, Bool.false_eq_true, if_false]
    rw [setCell_blk w b _ v arr ty fr h] at hs
    obtain ⟨arr', e1, e2, e3⟩ := run_storeCells_blk P b off ty fr vs (i + 1) (arr.setIfInBounds (off + i) v) { w with heap := w.heap.setIfInBounds b (.cells (arr.setIfInBounds (off + i) v) ty fr) }
      (by simp [hb]) (by simp; omega) (fun u hu => h1 u (List.mem_cons_of_mem _ hu)) (fun j hj => hf j (by simpa using hj))
    refine ⟨arr', ?_, by rw [e2]; simp, fun j => ?_⟩
    · simp only [storeCells, Sem.run_bind, hs, Result.andThen_ok, e1]
      simp
    · rw [e3 j]
      by_cases hj : off + (i + 1) ≤ j ∧ j < off + (i + 1) + vs.length
      · rw [if_pos hj, if_pos (by simp only [List.length_cons]; omega)]
        rw [show j - (off + i) = (j - (off + (i + 1))) + 1 by omega]
        simp
      · rw [if_neg hj]
        by_cases hj' : j = off + i
        · subst hj'
          rw [if_pos (by simp only [List.length_cons]; omega)]
          simp [hlt]
        · rw [if_neg (by simp only [List.length_cons]; omega), Array.getElem?_setIfInBounds_ne (by omega)]
theorem mem_setAt {n : Nat} {vs l : List Value} (h : n + vs.length ≤ l.length) {v : Value} (hv : v ∈ setAt n vs l) : v ∈ vs ∨ v ∈ l := by
  obtain ⟨j, hj, rfl⟩ := List.getElem_of_mem hv
  have := setAt_get l n vs j h
  rw [List.getElem?_eq_getElem hj] at this
  split at this
  · exact .inl (List.mem_of_getElem? this.symm)
  · exact .inr (List.mem_of_getElem? this.symm)

section
variable {P : Program} {r : Ren} {s s' : St} {w : World}
theorem wrCells_ok {a : Addr} {vs : List Value} (h : wrCells s a vs = some s') (hg : Good r s w) (hv : ∀ v ∈ vs, bnd r.d v = true) :
    a.spot = none ∧ s'.O = s.O ∧ ∃ w', (storeCells (r.addr a) (vs.map r.val)).run P w = .ok () w' ∧ To r s w r s' w' := by
  unfold wrCells at h
  simp only [lenT_eq] at h
  cases hs : a.spot with
  | some _ => rw [hs] at h; cases h
  | none =>
    rw [hs] at h
    simp only [] at h
    obtain ⟨k, hk, h⟩ := Option.bind_eq_some_iff.1 h
    cases hc : (k.rw && hasN (a.off + vs.length) k.cells && oneC vs)
    · rw [hc] at h; cases h
    rw [hc] at h
    simp only [cond_true, Option.some.injEq] at h
    subst h
    simp only [Bool.and_eq_true] at hc
    obtain ⟨⟨hrw, hn⟩, ho⟩ := hc
    rw [hasN_iff] at hn
    have ho' : ∀ v ∈ vs, v.oneCell' = true := fun v hv => List.all_eq_true.1 ho v hv
    refine ⟨rfl, rfl, ?_⟩
    obtain ⟨arr, ty, fr, h1, h2, h3, h4⟩ := hg.is _ _ hk
    have hsz : k.cells.length ≤ arr.size := by
      cases hop : k.op with
      | none => rw [hop] at h2; simp only [] at h2; omega
      | some p => rw [hop] at h2; exact h2.2
    rw [addr_plain r a hs]
    obtain ⟨arr', e1, e2, e3⟩ := run_storeCells_blk P (r.b a.block) a.off ty fr (vs.map r.val) 0 arr w h1 (by simp; omega) (fun v hv => by
      obtain ⟨u, hu, rfl⟩ := List.mem_map.1 hv
      rw [val_oneCell]; exact ho' u hu) h4
    have hlt := (hg.is _ _ hk).lt
    have hlk : ∀ g k', look (upd s.h a.block (setAt a.off vs k.cells)) g = some k' → (g = a.block ∧ k' = { k with cells := setAt a.off vs k.cells }) ∨ (g ≠ a.block ∧ look s.h g = some k') := by
      intro g k' hk'
      rw [look_upd] at hk'
      split at hk'
      · rename_i e; subst e; rw [hk] at hk'; exact .inl ⟨rfl, (Option.some.inj hk').symm⟩
      · rename_i e; exact .inr ⟨e, hk'⟩
    have hfar : ∀ b', b' ≠ r.b a.block → (w.heap.setIfInBounds (r.b a.block) (.cells arr' ty fr))[b']? = w.heap[b']? := fun b' hb' =>
      Array.getElem?_setIfInBounds_ne (Ne.symm hb')
    refine ⟨_, e1, ⟨Ext.refl _, fun _ h => .inl h, Nat.le_refl _, hg, ⟨?_, ?_, ?_, hg.lo⟩, rfl, rfl, rfl, by simp, ?_, ?_⟩⟩
    · intro g k' hk'
      rcases hlk g k' hk' with ⟨rfl, rfl⟩ | ⟨hne, hk'⟩
      · refine ⟨arr', ty, fr, by simp [hlt], ?_, ?_, fun j hj => h4 j (by omega)⟩
        · cases hop : k.op with
          | none => rw [hop] at h2; simp only [setAt_length] at h2 ⊢; omega
          | some p => rw [hop] at h2; simp only [setAt_length] at h2 ⊢; exact ⟨by omega, by omega⟩
        · intro j v hj
          simp only [] at hj
          rw [setAt_get _ _ _ _ hn] at hj
          rw [e3 j]
          simp only [Nat.add_zero, List.length_map]
          split at hj
          · rename_i hc; rw [if_pos hc, List.getElem?_map, hj]; rfl
          · rename_i hc; rw [if_neg hc]; exact h3 j v hj
      · obtain ⟨arr2, ty2, fr2, g1, g2⟩ := hg.is g k' hk'
        refine ⟨arr2, ty2, fr2, ?_, g2⟩
        rw [← g1]
        exact hfar _ fun e => hne (hg.inj g a.block k' k hk' hk e)
    · intro g g' k1 k2 h5 h6 h7
      rcases hlk g k1 h5 with ⟨rfl, rfl⟩ | ⟨hne, h5⟩ <;> rcases hlk g' k2 h6 with ⟨rfl, rfl⟩ | ⟨hne', h6⟩
      · rfl
      · exact hg.inj _ _ k k2 hk h6 h7
      · exact hg.inj _ _ k1 k h5 hk h7
      · exact hg.inj _ _ k1 k2 h5 h6 h7
    · intro g k' hk'
      rcases hlk g k' hk' with ⟨rfl, rfl⟩ | ⟨hne, hk'⟩
      · refine ⟨(hg.lt _ _ hk).1, (hg.lt _ _ hk).2.1, fun v hv' => ?_⟩
        rcases mem_setAt hn hv' with h8 | h8
        · exact ⟨hv v h8, ho' v h8⟩
        · exact (hg.lt _ _ hk).2.2 v h8
      · exact hg.lt _ _ hk'
    · intro b' _ hb'
      exact hfar _ fun e => hb' a.block k hk hrw e.symm
    · intro g k' hk'
      rcases hlk g k' hk' with ⟨rfl, rfl⟩ | ⟨hne, hk'⟩
      · exact .inl ⟨k, hk, fun _ => hrw⟩
      · exact .inl ⟨k', hk', id⟩
end
end Go.Proofs.Ytnnagaioiodniaa.Eng
