/-
  The abstract machine: operations under their guards; lists of operations.
-/
import Derived.Test.YtnnagaioiodniaaEngM
namespace Go.Proofs.Ytnnagaioiodniaa.Eng
open Go.RowKit

/-- A temporary is what the letters say. -/
def Tm (r : Ren) (e : Env) (a : Act) (t : Tmp) : Prop := a.tmps.getD t undef = r.val (getE e t) ∧ bnd r.d (getE e t) = true
structure Fits (r : Ren) (nt : Nat) (e : Env) (a : Act) : Prop where
  size : a.tmps.size = nt
  defers : a.defers = []
  tmps : ∀ t, Tm r e a t

section
variable {P : Program} {r : Ren} {s s' : St} {w : World} {e : Env} {a : Act} {ops : Array Oper} {Q : Exit → Act → World → Prop}
theorem Tm.ext {r' : Ren} {t : Tmp} (h : Tm r e a t) (he : Ext r r') : Tm r' e a t := ⟨by rw [val_ext he _ h.2]; exact h.1, bnd_mono he.d _ h.2⟩
theorem val_ne_bool {v : Value} {b : Bool} (h : r.val v = .bool b) : v = .bool b := by
  cases v with
  | bool c => rw [val_bool] at h; exact h
  | agg cs => rw [val_agg] at h; cases h
  | tuple cs => rw [val_tuple] at h; cases h
  | func f x y => rw [val_func] at h; cases h
  | iface t v => rw [val_iface] at h; cases h
  | pointer p => rw [val_ptr] at h; cases h
  | slice p l c => rw [val_slice] at h; cases h
  | int k n => rw [val_int] at h; cases h
  | string b => rw [val_string] at h; cases h
  | nilFunc => rw [val_nilFunc] at h; cases h
  | nilIface => rw [val_flat0 r rfl] at h; cases h
  | float k n => rw [val_flat0 r rfl] at h; cases h
  | complex k n m => rw [val_flat0 r rfl] at h; cases h
  | map m => rw [Ren.val] at h <;> first | (cases h; done) | simp
  | chan m => rw [Ren.val] at h <;> first | (cases h; done) | simp
theorem guardE_ok {o : Oper} (hO : (guardE ops e s o).2.O) (hE : ∀ t ∈ o.looksAt ops, Tm r e a t) :
    SameBut s (guardE ops e s o).2 ∧ Region.wanted o (yielded ops a.tmps) = (guardE ops e s o).1 := by
  unfold guardE at hO ⊢
  unfold Region.wanted
  cases hg : o.guard with
  | none => exact ⟨.refl _, rfl⟩
  | some jw =>
    obtain ⟨j, want⟩ := jw
    rw [hg] at hO
    simp only [] at hO ⊢
    unfold yielded
    have hj : (ops.toList[j]?).bind (fun o => o.dst) = (ops[j]?).bind (·.dst) := by rw [Array.getElem?_toList]
    rw [hj] at hO ⊢
    cases hd : (ops[j]?).bind (·.dst) with
    | none =>
      simp only [Option.bind_none]
      refine ⟨.refl _, ?_⟩
      cases want <;> rfl
    | some d =>
      rw [hd] at hO
      simp only [Option.bind_some] at hO ⊢
      have ht := hE d (by unfold Oper.looksAt; rw [hg]; simp [hd])
      cases hv : getE e d with
      | bool b =>
        rw [hv] at hO
        simp only [] at hO ⊢
        refine ⟨.test _ _, ?_⟩
        rw [test_eq _ _ hO]
        have h1 := ht.1
        rw [hv, val_bool] at h1
        have hlt : d < a.tmps.size := by
          rcases Nat.lt_or_ge d a.tmps.size with h | h
          · exact h
          · rw [Array.getD_eq_getD_getElem?, Array.getElem?_eq_none h] at h1
            cases h1
        have h2 : a.tmps[d]? = some (.bool b) := by
          rw [Array.getElem?_eq_getElem hlt]
          rw [Array.getD_eq_getD_getElem?, Array.getElem?_eq_getElem hlt] at h1
          simpa using h1
        rw [h2]
        cases b <;> cases want <;> rfl
      | _ =>
        simp only []
        refine ⟨.refl _, ?_⟩
        have hnb : ∀ b, a.tmps[d]? ≠ some (.bool b) := by
          intro b hb
          have h1 := ht.1
          rw [Array.getD_eq_getD_getElem?, hb] at h1
          simp only [Option.getD_some] at h1
          have := val_ne_bool h1.symm
          rw [hv] at this
          cases this
        cases hx : a.tmps[d]? with
        | none => cases want <;> rfl
        | some x =>
          cases x with
          | bool b => exact absurd hx (hnb b)
          | _ => cases want <;> rfl

theorem sees_all {o : Oper} (hE : ∀ t ∈ o.looksAt ops, Tm r e a t) : ∀ x ∈ o.op.operands, Sees r e a x := fun x hx =>
  sees_of fun t ht => hE t (by
    subst ht
    unfold Oper.looksAt
    exact List.mem_append_left _ (List.mem_filterMap.2 ⟨.tmp t, by simpa using hx, rfl⟩))

theorem xguarded_ok {o : Oper} {call : CallK} {v : Value} {i : Nat} (hi : ops[i]? = some o) (h : xguarded P call ops e s o = some (v, s')) (hO : s'.O) (hE : ∀ t ∈ o.looksAt ops, Tm r e a t)
    (hwf : WFn s) (hg : Good r s w) (hfr : Fresh r s.n s'.n) (hcall : SoundCall P call) {K : Act → World → Prop} (hK : ∀ r' w', To r s w r' s' w' → bnd r'.d v = true → K (a.put o.dst (r'.val v)) w') :
    s.O ∧ wpOp P ops Q i K a w := by
  unfold xguarded at h
  unfold wpOp
  simp only [hi]
  cases hb : (guardE ops e s o).1
  · rw [hb] at h
    simp only [cond_false, Option.some.injEq, Prod.mk.injEq] at h
    obtain ⟨rfl, rfl⟩ := h
    obtain ⟨h1, h2⟩ := guardE_ok hO hE
    rw [h2, hb]
    simp only [Bool.false_eq_true, if_false]
    refine ⟨h1.2.2.2 hO, ?_⟩
    have := hK r w (h1.to hg) (bnd_undef _)
    rw [val_undef] at this
    exact this
  · rw [hb] at h
    simp only [cond_true] at h
    obtain ⟨k1, k2⟩ := xop_ok h hO (sees_all hE) (w := w) (r := r) (a := a) (s := (guardE ops e s o).2) (by
      unfold guardE
      split
      · exact hg
      · split
        · exact hg
        · split
          · exact (SameBut.test _ _).good hg
          · exact hg) (by
      have : (guardE ops e s o).2.n = s.n := by
        unfold guardE
        split
        · rfl
        · split
          · rfl
          · split
            · exact test_n _ _
            · rfl
      rw [this]; exact hfr) hcall
    obtain ⟨h1, h2⟩ := guardE_ok k1 hE
    rw [h2, hb]
    simp only [if_true]
    refine ⟨h1.2.2.2 k1, .inl ?_⟩
    unfold Oper.wp
    have hto : ∀ {r' w'}, To r (guardE ops e s o).2 w r' s' w' → To r s w r' s' w' := fun h => (h1.to hg).trans h
    rcases k2 with ⟨r', w', hr, h3, h4⟩ | ⟨f, args, hr, h3, h4⟩
    · rcases hr with hr | ⟨hr, rfl⟩
      · rw [hr]
        exact hK r' w' (hto h3) h4
      · rw [hr]
        have := hK r' w' (hto h3) h4
        rw [val_undef] at this
        exact this
    · rw [hr]
      refine (h3 r w ((mono_guard ops e s o).2.2 hwf) (h1.good hg) (by rw [h1.1]; exact hfr) h4).mono ?_
      rintro e' w' ⟨r', rfl, h5, h6⟩
      exact hK r' w' (hto h5) h6

theorem putO_ok {nt : Nat} {e' : Env} {dst : Option Tmp} {v : Value} {r' : Ren} (h : putO nt e dst v = some e') (hf : Fits r nt e a) (he : Ext r r') (hv : bnd r'.d v = true) : Fits r' nt e' (a.put dst (r'.val v)) := by
  unfold putO at h
  cases dst with
  | none =>
    simp only [Option.some.injEq] at h
    subst h
    exact ⟨hf.size, hf.defers, fun t => (hf.tmps t).ext he⟩
  | some d =>
    simp only [] at h
    cases hb : Nat.blt d nt
    · rw [hb] at h; cases h
    rw [hb] at h
    simp only [cond_true, Option.some.injEq] at h
    subst h
    have hlt : d < nt := by simpa using hb
    refine ⟨by simp [Act.put, hf.size], by simp [Act.put, hf.defers], fun t => ?_⟩
    unfold Tm
    rw [getE_putE]
    by_cases ht : t = d
    · subst ht
      rw [if_pos rfl]
      refine ⟨?_, hv⟩
      simp only [Act.put, Array.getD_eq_getD_getElem?]
      rw [Array.getElem?_setIfInBounds_self_of_lt (by rw [hf.size]; exact hlt)]
      rfl
    · rw [if_neg ht]
      have := (hf.tmps t).ext he
      refine ⟨?_, this.2⟩
      simp only [Act.put, Array.getD_eq_getD_getElem?]
      rw [Array.getElem?_setIfInBounds_ne (Ne.symm ht), ← Array.getD_eq_getD_getElem?]
      exact this.1

theorem SoundCall.mono {call : CallK} (h : SoundCall P call) : ∀ f args s v s', call f args s = some (v, s') → Mono s s' := fun f args s v s' hc => (h f args s v s' hc).1
theorem evOps_ok {call : CallK} {nt : Nat} (hcall : SoundCall P call) : ∀ (l : List Oper) (k : Nat) (f f' : Fr) (r : Ren) (a : Act) (w : World), evOps P call nt ops l f = some f' → f'.s.O → ops.toList.drop k = l →
    Fits r nt f.e a → WFn f.s → Good r f.s w → Fresh r f.s.n f'.s.n → (∀ r' a' w', To r f.s w r' f'.s w' → Fits r' nt f'.e a' → Q .normal a' w') →
    wpOps P ops Q (List.range' k l.length) a w
  | [], k, f, f', r, a, w, h, _, _, hf, _, hg, _, hQ => by
    simp only [evOps, Option.some.injEq] at h
    subst h
    exact hQ r a w (To.refl hg) hf
  | o :: l, k, f, f', r, a, w, h, hO, hl, hf, hwf, hg, hfr, hQ => by
    simp only [evOps] at h
    replace h := Option.bind_eq_some_iff.1 h
    obtain ⟨⟨v, s1⟩, h1, h⟩ := h
    replace h := Option.bind_eq_some_iff.1 h
    obtain ⟨e1, h2, h⟩ := h
    have hi : ops[k]? = some o := by
      have := congrArg (fun l => l[0]?) hl
      simp only [List.getElem?_drop, List.getElem?_cons_zero, Nat.add_zero] at this
      rw [Array.getElem?_toList] at this
      exact this
    have hl' : ops.toList.drop (k + 1) = l := by
      have := congrArg List.tail hl
      rw [List.tail_drop] at this
      exact this
    have hm := mono_ops hcall.mono l _ _ h
    rw [List.length_cons, List.range'_succ, wpOps_cons]
    refine (xguarded_ok hi h1 (hm.2.1 hO) (fun t _ => hf.tmps t) hwf hg (hfr.sub (Nat.le_refl _) hm.1) hcall ?_).2
    intro r' w' hto hb
    exact evOps_ok hcall l (k + 1) ⟨e1, s1⟩ f' r' _ w' h hO hl' (putO_ok h2 hf hto.ext hb) ((mono_guarded hcall.mono h1).2.2 hwf) hto.good (hto.fresh hfr) (fun r2 a2 w2 h3 h4 => hQ r2 a2 w2 (hto.trans h3) h4)
end
end Go.Proofs.Ytnnagaioiodniaa.Eng
