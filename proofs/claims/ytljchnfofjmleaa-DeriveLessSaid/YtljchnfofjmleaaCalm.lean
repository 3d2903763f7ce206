/-
  Regions that draw their order, whose operations read or call what only makes memory: one walk in the order of the text.
-/
import Derived.Test.YtljchnfofjmleaaBase
import Derived.BigQuiet
namespace Go.Proofs.Ytljchnfofjmleaa
open Go.RowKit

/-- A world of a class. -/
structure Later (S : World → Prop) where
  val : World
  ok : S val

/-- A class that a world stays in when memory is made. -/
def Grows (S : World → Prop) : Prop := ∀ w w', S w → Below w.heap.size w w' → S w'

theorem grows_below (w : World) : Grows (Below w.heap.size w) := fun _ _ h hb => h.trans (hb.mono h.size)

section
variable {P : Program} {Q : Exit → Act → World → Prop}

theorem wp_region_calm {id : Nat} {a : Act} {w : World} {l : List Oper} (hm : P.follows .mixedOrders = true) (hB : Region.lexB .any l.toArray = true)
    (h : ∀ S : World → Prop, (∀ W, S W → Below w.heap.size w W) → Grows S → wpQuiet P l.toArray (fun w' => ∃ x : Later S, w' = x.val) (fun a' => ∀ W, Below w.heap.size w W → Q .normal a' W) l a) :
    (Code.region id l.toArray true).wp P Q a w :=
  wp_region_quiet (C := fun w' => ∃ x : Later (Below w.heap.size w), w' = x.val) hm hB ⟨⟨w.drew, (Below.refl _ _).drew⟩, rfl⟩ (by
    have := h (Below w.heap.size w) (fun _ h => h) (grows_below w)
    have e : (fun a' => ∀ w', (∃ x : Later (Below w.heap.size w), w' = x.val) → Q .normal a' w') = (fun a' => ∀ W, Below w.heap.size w W → Q .normal a' W) := by
      funext a'
      exact propext ⟨fun h W hW => h W ⟨⟨W, hW⟩, rfl⟩, fun h w' ⟨x, hx⟩ => hx ▸ h _ x.ok⟩
    rw [e]; exact this)

theorem calm_of {f : FuncId} {args : Array Value} {S : World → Prop} {x : Later S} {v : Value} (hG : Grows S)
    (h : Calls P f args x.val fun e w' => e = .returned v ∧ Below x.val.heap.size x.val w') : Calls P f args x.val fun e w'' => e = .returned v ∧ ∃ y : Later S, w'' = y.val :=
  h.mono fun _ w' ⟨he, hb⟩ => ⟨he, ⟨w', hG _ _ x.ok hb⟩, rfl⟩
theorem calm_same {f : FuncId} {args : Array Value} {S : World → Prop} {x : Later S} {v : Value}
    (h : Calls P f args x.val fun e w' => e = .returned v ∧ x.val = w') : Calls P f args x.val fun e w'' => e = .returned v ∧ ∃ y : Later S, w'' = y.val :=
  h.mono fun _ _ ⟨he, hb⟩ => ⟨he, x, hb.symm⟩
theorem calm_drew {f : FuncId} {args : Array Value} {S : World → Prop} {x : Later S} {v : Value} (hG : Grows S)
    (h : Calls P f args x.val fun e w' => e = .returned v ∧ ∃ m, w' = x.val.drewN m) : Calls P f args x.val fun e w'' => e = .returned v ∧ ∃ y : Later S, w'' = y.val :=
  h.mono fun _ w' ⟨he, m, hb⟩ => ⟨he, ⟨w', hG _ _ x.ok (by rw [hb]; exact below_drewN (Below.refl _ _) _)⟩, rfl⟩
theorem later_cell {w : World} {S : World → Prop} (hS : ∀ W, S W → Below w.heap.size w W) {p : Addr} {v : Value} (h : w.cell? p = some v) (hp : p.block < w.heap.size) (x : Later S) : x.val.cell? p = some v :=
  ((hS _ x.ok).cell hp).trans h
theorem later_blk {w : World} {S : World → Prop} (hS : ∀ W, S W → Below w.heap.size w W) {g : Nat} {t : TypeId} {cs : Array Value} (h : Blk w g t cs) (x : Later S) : Blk x.val g t cs := h.below (hS _ x.ok) h.lt
end

/-- What is known of a world: since w0 only memory was made and own blocks were written; the own blocks read so. -/
structure Holds (w0 : World) (st : List (Nat × TypeId × Array Value)) (w : World) : Prop where
  below : Below w0.heap.size w0 w
  blk : ∀ (i : Nat) (x : Nat × TypeId × Array Value), st[i]? = some x → Blk w x.1 x.2.1 x.2.2 ∧ w0.heap.size ≤ x.1
  apart : ∀ (i j : Nat) (x y : Nat × TypeId × Array Value), st[i]? = some x → st[j]? = some y → i ≠ j → x.1 ≠ y.1

section
variable {w0 w w' : World} {st : List (Nat × TypeId × Array Value)}
theorem Holds.nil (w : World) : Holds w [] w := ⟨Below.refl _ _, fun _ _ h => by simp at h, fun _ _ _ _ h => by simp at h⟩
theorem Holds.grow (h : Holds w0 st w) (hb : Below w.heap.size w w') : Holds w0 st w' :=
  ⟨h.below.trans (hb.mono h.below.size), fun i x hx => ⟨(h.blk i x hx).1.below hb (h.blk i x hx).1.lt, (h.blk i x hx).2⟩, h.apart⟩
theorem Holds.grows : Grows (Holds w0 st) := fun _ _ h hb => h.grow hb
theorem Holds.drew (h : Holds w0 st w) : Holds w0 st w.drew := h.grow (Below.refl _ _).drew
theorem Holds.drewN (h : Holds w0 st w) (n : Nat) : Holds w0 st (w.drewN n) := h.grow (below_drewN (Below.refl _ _) n)
theorem Holds.more (h : Holds w0 st w) (o : Obj) : Holds w0 st (w.alloc o) := h.grow ((Below.refl _ _).alloc (Nat.le_refl _) o)
theorem Holds.alloc (h : Holds w0 st w) {g : Nat} (hg : w.heap.size = g) (t : TypeId) (cs : Array Value) : Holds w0 (st ++ [(g, t, cs)]) (w.alloc (.cells cs t)) := by
  subst hg
  have hold : ∀ (i : Nat) (x : Nat × TypeId × Array Value), (st ++ [(w.heap.size, t, cs)])[i]? = some x → (st[i]? = some x ∧ x.1 < w.heap.size) ∨ (i = st.length ∧ x = (w.heap.size, t, cs)) := by
    intro i x hx
    rw [List.getElem?_append] at hx
    split at hx
    · exact .inl ⟨hx, (h.blk i x hx).1.lt⟩
    · rename_i hi
      have : i - st.length = 0 := by
        rcases Nat.eq_zero_or_pos (i - st.length) with h0 | h0
        · exact h0
        · rw [List.getElem?_eq_none (by simp; omega)] at hx; cases hx
      rw [this] at hx
      simp at hx
      exact .inr ⟨by omega, hx.symm⟩
  refine ⟨(h.more _).below, fun i x hx => ?_, fun i j x y hx hy hij => ?_⟩
  · rcases hold i x hx with ⟨h1, _⟩ | ⟨_, rfl⟩
    · exact (h.more _).blk i x h1
    · exact ⟨Blk.new _ _ _, h.below.size⟩
  · rcases hold i x hx with ⟨h1, l1⟩ | ⟨e1, rfl⟩ <;> rcases hold j y hy with ⟨h2, l2⟩ | ⟨e2, rfl⟩
    · exact h.apart i j x y h1 h2 hij
    · show x.1 ≠ w.heap.size; omega
    · show w.heap.size ≠ y.1; omega
    · omega
theorem Holds.set (h : Holds w0 st w) (i : Nat) {g : Nat} {t : TypeId} {cs : Array Value} (hi : st[i]? = some (g, t, cs)) (j : Nat) (v : Value) : Holds w0 (st.set i (g, t, cs.setIfInBounds j v)) (w.setCell ⟨g, j, none⟩ v) := by
  have hlt : i < st.length := (List.getElem?_eq_some_iff.1 hi).1
  have hold : ∀ (k : Nat) (x : Nat × TypeId × Array Value), (st.set i (g, t, cs.setIfInBounds j v))[k]? = some x → (k ≠ i ∧ st[k]? = some x) ∨ (k = i ∧ x = (g, t, cs.setIfInBounds j v)) := by
    intro k x hx
    by_cases hk : k = i
    · subst hk; rw [List.getElem?_set_self hlt] at hx; exact .inr ⟨rfl, (Option.some.inj hx).symm⟩
    · rw [List.getElem?_set_ne (Ne.symm hk)] at hx; exact .inl ⟨hk, hx⟩
  refine ⟨h.below.setCell (h.blk i _ hi).2 _, fun k x hx => ?_, fun k l x y hx hy hkl => ?_⟩
  · rcases hold k x hx with ⟨hk, h1⟩ | ⟨_, rfl⟩
    · exact ⟨(h.blk k x h1).1.far (h.apart k i x _ h1 hi hk) _, (h.blk k x h1).2⟩
    · exact ⟨(h.blk i _ hi).1.set_ _ _, (h.blk i _ hi).2⟩
  · rcases hold k x hx with ⟨hk, h1⟩ | ⟨rfl, rfl⟩ <;> rcases hold l y hy with ⟨hl, h2⟩ | ⟨rfl, rfl⟩
    · exact h.apart k l x y h1 h2 hkl
    · exact h.apart k l x (g, t, cs) h1 hi hk
    · exact h.apart k l (g, t, cs) y hi h2 (Ne.symm hl)
    · omega
theorem Holds.at_ (h : Holds w0 st w) (i : Nat) {g : Nat} {t : TypeId} {cs : Array Value} (hi : st[i]? = some (g, t, cs)) : Blk w g t cs := (h.blk i _ hi).1
theorem Holds.cell (h : Holds w0 st w) (i : Nat) {g : Nat} {t : TypeId} {cs : Array Value} (hi : st[i]? = some (g, t, cs)) : ∀ j, w.cell? ⟨g, j, none⟩ = cs[j]? := (h.at_ i hi).cell
theorem Holds.frozen (h : Holds w0 st w) (i : Nat) {g : Nat} {t : TypeId} {cs : Array Value} (hi : st[i]? = some (g, t, cs)) : ∀ j, w.frozen? ⟨g, j, none⟩ = false := (h.at_ i hi).frozen
theorem Holds.lt (h : Holds w0 st w) (i : Nat) {g : Nat} {t : TypeId} {cs : Array Value} (hi : st[i]? = some (g, t, cs)) : g < w.heap.size := (h.at_ i hi).lt
end

section
variable {P : Program} {Q : Exit → Act → World → Prop} {w0 w : World} {st : List (Nat × TypeId × Array Value)}
/-- One walk of a region, in the order of the text, in all worlds of which just this is known. -/
theorem wp_region_holds {id : Nat} {a : Act} {l : List Oper} (hm : P.follows .mixedOrders = true) (hB : Region.lexB .any l.toArray = true) (hw : Holds w0 st w)
    (h : wpQuiet P l.toArray (fun w' => ∃ x : Later (Holds w0 st), w' = x.val) (fun a' => ∀ W, Holds w0 st W → Q .normal a' W) l a) :
    (Code.region id l.toArray true).wp P Q a w :=
  wp_region_quiet (C := fun w' => ∃ x : Later (Holds w0 st), w' = x.val) hm hB ⟨⟨w.drew, hw.drew⟩, rfl⟩ (by
    have e : (fun a' => ∀ w', (∃ x : Later (Holds w0 st), w' = x.val) → Q .normal a' w') = (fun a' => ∀ W, Holds w0 st W → Q .normal a' W) := by
      funext a'
      exact propext ⟨fun h W hW => h W ⟨⟨W, hW⟩, rfl⟩, fun h w' ⟨x, hx⟩ => hx ▸ h _ x.ok⟩
    rw [e]; exact h)
theorem calls_holds {f : FuncId} {args : Array Value} {x : Later (Holds w0 st)} {v : Value} (h : Calls P f args x.val fun e w' => e = .returned v ∧ Below x.val.heap.size x.val w') :
    Calls P f args x.val fun e w'' => e = .returned v ∧ ∃ y : Later (Holds w0 st), w'' = y.val := calm_of Holds.grows h
theorem later_c {i : Nat} {g : Nat} {t : TypeId} {cs : Array Value} (hi : st[i]? = some (g, t, cs)) (x : Later (Holds w0 st)) (j : Nat) : x.val.cell? ⟨g, j, none⟩ = cs[j]? := x.ok.cell i hi j
end
end Go.Proofs.Ytljchnfofjmleaa
