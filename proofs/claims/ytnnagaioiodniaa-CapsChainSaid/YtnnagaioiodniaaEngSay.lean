/-
  The abstract machine: contracts of functions that take and yield no address, as a base; what one path answers.
-/
import Derived.Test.YtnnagaioiodniaaEngT
namespace Go.Proofs.Ytnnagaioiodniaa.Eng
open Go.RowKit

section
variable {P : Program} {r : Ren} {s : St} {w w' : World}
theorem Good.below (hg : Good r s w) (hb : Below w.heap.size w w') : Good r s w' := by
  refine ⟨fun g k hk => ?_, hg.inj, hg.lt, hg.lo⟩
  obtain ⟨arr, ty, fr, h1, h2⟩ := hg.is g k hk
  refine ⟨arr, ty, fr, ?_, h2⟩
  rw [hb.block _ (Array.getElem?_eq_some_iff.1 h1).1]
  exact h1
theorem To.of_below (hg : Good r s w) (hb : Below w.heap.size w w') : To r s w r s w' :=
  ⟨Ext.refl _, fun _ h => .inl h, Nat.le_refl _, hg, hg.below hb, hb.os, hb.tape, hb.output, hb.size, fun b h _ => hb.block b h, fun _ k hk => .inl ⟨k, hk, id⟩⟩
/-- A function takes these values, without an address, and yields that one; what stood in the heap stays. -/
structure Pure (P : Program) (f : FuncId) (args : List Value) (v : Value) : Prop where
  enters : Enters P f
  sees : ∀ u ∈ args, flat2 u = true
  flat : flat2 v = true
  calls : ∀ w, Calls P f (List.toArray args) w fun e w' => e = .returned v ∧ Below w.heap.size w w'
/-- Contracts as a base: what is answered, and what that rests on. -/
abbrev Ans := FuncId → List Value → Option (Value × Prop)
def baseOf (ans : Ans) : CallK := fun f args s => (ans f args).map fun x => (x.1, { s with O := s.O ∧ x.2 })
def AnsOk (P : Program) (ans : Ans) : Prop := ∀ f args v q, ans f args = some (v, q) → q → Pure P f args v
theorem base_ok {ans : Ans} (h : AnsOk P ans) : SoundCall P (baseOf ans) := by
  intro f args s v s' hc
  unfold baseOf at hc
  obtain ⟨⟨v', q⟩, h1, h2⟩ := Option.map_eq_some_iff.1 hc
  simp only [Prod.mk.injEq] at h2
  obtain ⟨rfl, rfl⟩ := h2
  refine ⟨⟨Nat.le_refl _, fun hO => hO.1, id⟩, fun hO => ?_⟩
  have hp := h f args _ q h1 hO.2
  refine ⟨hp.enters, fun r w hwf hg hfr hb => ?_⟩
  have hm : args.map r.val = args := by
    rw [List.map_congr_left (g := id)]
    · simp
    · intro u hu; exact val_flat2 _ (hp.sees u hu)
  rw [hm]
  refine (hp.calls w).mono ?_
  rintro e w' ⟨rfl, h4⟩
  exact ⟨r, by rw [val_flat2 _ hp.flat], (To.of_below hg h4).trans (.same (hg.below h4) rfl rfl rfl), bnd_flat2 _ hp.flat⟩
def noAns : Ans := fun _ _ => none
theorem noAns_ok (P : Program) : AnsOk P noAns := fun _ _ _ _ h => by cases h
/-- The state from which a path is run: the tests' answers. -/
def stT (T : List (Nat × Bool)) : St := ⟨0, [], [], 0, T, 0, True⟩
def obs (x : Res) : Option (Value × Prop) := x.map fun p => (p.1, p.2.O)
theorem path_ok {call : CallK} (hcall : SoundCall P call) {f : FuncId} {args : List Value} {T : List (Nat × Bool)} {v : Value} {q : Prop} (h : obs (call f args (stT T)) = some (v, q)) (hq : q)
    (ha : ∀ u ∈ args, flat2 u = true) (hv : flat2 v = true) : Pure P f args v := by
  unfold obs at h
  obtain ⟨⟨v', s'⟩, h1, h2⟩ := Option.map_eq_some_iff.1 h
  cases h2
  obtain ⟨_, h3⟩ := hcall f args _ _ _ h1
  obtain ⟨h4, h5⟩ := h3 hq
  refine ⟨h4, ha, hv, fun w => ?_⟩
  have hm : args.map ren0.val = args := by
    rw [List.map_congr_left (g := id)]
    · simp
    · intro u hu; exact val_flat2 _ (ha u hu)
  have h6 := h5 ren0 w ⟨fun g k h => (by cases h), fun x h => (by cases h)⟩ ⟨fun g k h => (by cases h), fun g g' k k' h => (by cases h), fun g k h => (by cases h), fun x h => (by cases h)⟩ (fun _ _ _ => rfl) fun u hu => bnd_flat2 _ (ha u hu)
  rw [hm] at h6
  refine h6.mono ?_
  rintro e w' ⟨r', rfl, h7, _⟩
  exact ⟨by rw [val_flat2 _ hv], h7.below fun g k hk => by cases hk⟩
/-- One run of a function by the machine, over a base of contracts: one word for it. -/
def Path (P : Program) (ans : Ans) (L k : Nat) (f : FuncId) (args : List Value) (T : List (Nat × Bool)) : Option (Value × Prop) := obs (evF P (baseOf ans) L k f args (stT T))
theorem path_pure {ans : Ans} {L k : Nat} (hn : namesOk P = true) (hb : AnsOk P ans) {f : FuncId} {args : List Value} {T : List (Nat × Bool)} {v : Value} {q : Prop} (h : Path P ans L k f args T = some (v, q)) (hq : q)
    (ha : ∀ u ∈ args, flat2 u = true) (hv : flat2 v = true) : Pure P f args v :=
  path_ok (run_ok (L := L) hn (base_ok hb) k) h hq ha hv
end
end Go.Proofs.Ytnnagaioiodniaa.Eng
