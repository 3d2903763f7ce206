/-
  The abstract machine: a region that draws its order. The words of a history; what is static.
-/
import Derived.Test.YtnnagaioiodniaaEngO
namespace Go.Proofs.Ytnnagaioiodniaa.Eng
open Go.RowKit

theorem memN_iff {i : Nat} : ∀ {l : List Nat}, memN i l = true ↔ i ∈ l
  | [] => by simp [memN]
  | x :: l => by
    simp only [memN, Bool.or_eq_true, memN_iff (l := l), List.mem_cons]
    constructor
    · rintro (h | h)
      · exact .inl (Nat.eq_of_beq_eq_true h).symm
      · exact .inr h
    · rintro (rfl | h)
      · exact .inl (Nat.beq_refl _)
      · exact .inr h

section
variable {ops : Array Oper} {B : List Nat}
/-- static: the bits -/
theorem okBefores_spec (h : okBefores ops.toList B = true) {i : Nat} {o : Oper} (hi : ops[i]? = some o) {k : Nat} (hk : k < ops.size) (hb : (getD' 0 B i).testBit k = true) :
    ∃ j ∈ edges o, j < i ∧ (j = k ∨ (getD' 0 B j).testBit k = true) := by
  unfold okBefores at h
  have hm : (o, i) ∈ ops.toList.zipIdx := by
    rw [List.mem_zipIdx_iff_getElem?]
    rw [Array.getElem?_toList]; exact hi
  have h1 := List.all_eq_true.1 h _ hm
  have h2 := List.all_eq_true.1 h1 k (by rw [List.mem_range, Array.length_toList]; exact hk)
  simp only [hb, Bool.not_true, Bool.false_or] at h2
  obtain ⟨j, hj, h3⟩ := List.any_eq_true.1 h2
  simp only [Bool.and_eq_true, Bool.or_eq_true, Nat.blt_eq] at h3
  refine ⟨j, hj, h3.1, ?_⟩
  rcases h3.2 with h4 | h4
  · exact .inl (Nat.eq_of_beq_eq_true h4)
  · exact .inr h4
theorem okTmps_spec (h : okTmps ops.toList B = true) {i j : Nat} {x y : Oper} (hi : ops[i]? = some x) (hj : ops[j]? = some y) (hne : i ≠ j) {d : Tmp} (hd : y.dst = some d) :
    x.dst ≠ some d ∧ (d ∈ x.looksAt ops → (getD' 0 B i).testBit j = true ∨ (getD' 0 B j).testBit i = true) := by
  unfold okTmps at h
  have hm : ∀ {k : Nat} {o : Oper}, ops[k]? = some o → (o, k) ∈ ops.toList.zipIdx := fun hk => by
    rw [List.mem_zipIdx_iff_getElem?]
    rw [Array.getElem?_toList]; exact hk
  have h1 := List.all_eq_true.1 (List.all_eq_true.1 h _ (hm hi)) _ (hm hj)
  have hnb : Nat.beq i j = false := by
    cases hb : Nat.beq i j
    · rfl
    · exact absurd (Nat.eq_of_beq_eq_true hb) hne
  simp only [hnb, hd, Bool.false_or, Bool.and_eq_true, Bool.or_eq_true] at h1
  obtain ⟨h2, h3⟩ := h1
  refine ⟨fun e => ?_, fun hl => ?_⟩
  · rw [e] at h2
    simp [Nat.beq_refl] at h2
  · rcases h3 with (h4 | h4) | h4
    · rw [Bool.not_eq_true'] at h4
      have := memN_iff.2 hl
      rw [show (⟨ops.toList⟩ : Array Oper) = ops from rfl] at h4
      rw [h4] at this; cases this
    · exact .inl h4
    · exact .inr h4
theorem bits_in (hB : okBefores ops.toList B = true) {D : Nat → Prop} (hc : ∀ i o, ops[i]? = some o → D i → ∀ j ∈ edges o, D j) :
    ∀ (i : Nat) (o : Oper), ops[i]? = some o → (∀ j ∈ edges o, D j) → ∀ k, k < ops.size → (getD' 0 B i).testBit k = true → D k := by
  intro i
  induction i using Nat.strongRecOn with
  | _ i ih =>
    intro o hi he k hk hb
    obtain ⟨j, hj, hlt, h⟩ := okBefores_spec hB hi hk hb
    rcases h with rfl | h
    · exact he _ hj
    · have hjs : j < ops.size := Nat.lt_trans hlt (Array.getElem?_eq_some_iff.1 hi).1
      exact ih j hlt ops[j] (by simp [hjs]) (hc j _ (by simp [hjs]) (he j hj)) k hk h
end

/-- One step of the order that is walked. -/
structure Step where
  i : Nat
  o : Oper
  v : Value
  e : Env
  sin : St
  sout : St
def Step.row (x : Step) : Rec := ⟨x.i, x.sin.n, x.sout.n, readsOf x.e x.o⟩
def recsOf (H : List Step) : List Rec := H.map Step.row
/-- The walk so far, newest first. -/
def Hist (P : Program) (call : CallK) (nt : Nat) (ops : Array Oper) (B : List Nat) (f0 : Fr) : List Step → Fr → Prop
  | [], f => f = f0
  | x :: H, f => ∃ fp, Hist P call nt ops B f0 H fp ∧ x.e = fp.e ∧ x.sin = stIn (getD' 0 B x.i) (recsOf H) fp.e fp.s x.o ∧ xguarded P call ops x.e x.sin x.o = some (x.v, x.sout) ∧
      putO nt fp.e x.o.dst x.v = some f.e ∧ f.s = stOut (getD' 0 B x.i) (recsOf H) fp.s x.o x.sout ∧ ops[x.i]? = some x.o ∧ (∀ y ∈ H, y.i ≠ x.i) ∧ (∀ j ∈ edges x.o, ∃ y ∈ H, y.i = j) ∧
      (∀ y ∈ H, freeOp y.o = false → (getD' 0 B x.i).testBit y.i = true)
theorem hidden_iff {b : Nat} {H : List Step} {g : Nat} : hidden b (recsOf H) g = true ↔ ∃ x ∈ H, b.testBit x.i = false ∧ x.sin.n ≤ g ∧ g < x.sout.n := by
  unfold hidden recsOf
  rw [List.any_map, List.any_eq_true]
  constructor
  · rintro ⟨x, hx, h⟩
    simp only [Function.comp, Step.row, Bool.and_eq_true, Bool.not_eq_true', Nat.ble_eq, Nat.blt_eq] at h
    exact ⟨x, hx, h.1.1, h.1.2, h.2⟩
  · rintro ⟨x, hx, h1, h2, h3⟩
    refine ⟨x, hx, ?_⟩
    simp only [Function.comp, Step.row, Bool.and_eq_true, Bool.not_eq_true', Nat.ble_eq, Nat.blt_eq]
    exact ⟨⟨h1, h2⟩, h3⟩
theorem locked_iff {b : Nat} {H : List Step} {g : Nat} : locked b (recsOf H) g = true ↔ ∃ x ∈ H, b.testBit x.i = false ∧ g ∈ readsOf x.e x.o := by
  unfold locked recsOf
  rw [List.any_map, List.any_eq_true]
  constructor
  · rintro ⟨x, hx, h⟩
    simp only [Function.comp, Step.row, Bool.and_eq_true, Bool.not_eq_true', memN_iff] at h
    exact ⟨x, hx, h.1, h.2⟩
  · rintro ⟨x, hx, h1, h2⟩
    refine ⟨x, hx, ?_⟩
    simp only [Function.comp, Step.row, Bool.and_eq_true, Bool.not_eq_true', memN_iff]
    exact ⟨h1, h2⟩
theorem look_append (h h' : Heap) (g : Nat) : look (h ++ h') g = (look h g).or (look h' g) := by
  induction h with
  | nil => simp [look]
  | cons x h ih =>
    rw [List.cons_append, look_cons, look_cons, ih]
    split <;> simp
theorem look_seen (b : Nat) (recs : List Rec) (s : St) : ∀ (l : List Nat) (g : Nat) (k : Blk), look (seen b recs s l) g = some k → g ∈ l ∧ hidden b recs g = false ∧ ∃ k', look s.h g = some k' ∧ k = { k' with rw := false }
  | [], g, k, h => by simp [seen, look] at h
  | x :: l, g, k, h => by
    simp only [seen] at h
    cases hh : hidden b recs x
    · rw [hh] at h
      simp only [cond_false] at h
      split at h
      · rename_i k' hk'
        rw [look_cons] at h
        split at h
        · rename_i e
          subst e
          simp only [Option.some.injEq] at h
          exact ⟨List.mem_cons_self .., hh, k', hk', h.symm⟩
        · obtain ⟨h1, h2⟩ := look_seen b recs s l g k h
          exact ⟨List.mem_cons_of_mem _ h1, h2⟩
      · obtain ⟨h1, h2⟩ := look_seen b recs s l g k h
        exact ⟨List.mem_cons_of_mem _ h1, h2⟩
    · rw [hh] at h
      simp only [cond_true] at h
      obtain ⟨h1, h2⟩ := look_seen b recs s l g k h
      exact ⟨List.mem_cons_of_mem _ h1, h2⟩
theorem look_map_lock (p : Nat → Bool) (h : Heap) (g : Nat) :
    look (h.map fun x => bif p x.1 then (x.1, { x.2 with rw := false }) else x) g = (look h g).map fun k => bif p g then { k with rw := false } else k := by
  induction h with
  | nil => simp [look]
  | cons x h ih =>
    rw [List.map_cons]
    have : (bif p x.1 then (x.1, { x.2 with rw := false }) else x) = (x.1, bif p x.1 then { x.2 with rw := false } else x.2) := by cases p x.1 <;> rfl
    rw [this, look_cons, look_cons, ih]
    split
    · rename_i e; simp at e; subst e; rfl
    · rfl
end Go.Proofs.Ytnnagaioiodniaa.Eng
