/-
  The abstract machine: what asks nobody; every operation.
-/
import Derived.Test.YtnnagaioiodniaaEngI
namespace Go.Proofs.Ytnnagaioiodniaa.Eng
open Go.RowKit

/-- What an operand is to the act. -/
def Sees (r : Ren) (e : Env) (a : Act) (x : Operand) : Prop := ∀ v, opd e x = some v → a.eval x = r.val v ∧ bnd r.d v = true

section
variable {P : Program} {r : Ren} {s s' : St} {w : World} {e : Env} {a : Act}
theorem sees_of {x : Operand} (h : ∀ t, x = .tmp t → a.tmps.getD t undef = r.val (getE e t) ∧ bnd r.d (getE e t) = true) : Sees r e a x := by
  intro v hv
  cases x with
  | tmp t =>
    simp only [opd, Option.some.injEq] at hv
    subst hv
    exact h t rfl
  | const c =>
    simp only [opd] at hv
    cases hf : flat1 c
    · rw [hf] at hv; cases hv
    · rw [hf] at hv
      simp only [cond_true, Option.some.injEq] at hv
      subst hv
      exact ⟨(val_flat1 r hf).symm, bnd_flat1 _ hf⟩
  | func f =>
    simp only [opd, Option.some.injEq] at hv
    subst hv
    exact ⟨by rw [val_func]; simp [Act.eval], by rw [bnd_func]; simp⟩
  | «global» g => simp [opd] at hv

theorem opds_ok : ∀ {l : List Operand} {vs : List Value}, opds e l = some vs → (∀ x ∈ l, Sees r e a x) → l.map a.eval = vs.map r.val ∧ ∀ v ∈ vs, bnd r.d v = true
  | [], vs, h, _ => by simp only [opds, Option.some.injEq] at h; subst h; exact ⟨rfl, fun v hv => by cases hv⟩
  | x :: l, vs, h, hs => by
    simp only [opds] at h
    obtain ⟨v, hv, h⟩ := Option.bind_eq_some_iff.1 h
    obtain ⟨vs', hvs, rfl⟩ := Option.map_eq_some_iff.1 h
    obtain ⟨h1, h2⟩ := opds_ok hvs fun y hy => hs y (List.mem_cons_of_mem _ hy)
    obtain ⟨h3, h4⟩ := hs x (List.mem_cons_self ..) v hv
    refine ⟨by rw [List.map_cons, List.map_cons, h1, h3], fun u hu => ?_⟩
    rcases List.mem_cons.1 hu with rfl | hu
    · exact h4
    · exact h2 u hu
theorem opdsN_ok : ∀ {l : List (Nat × Operand)} {vs : List (Nat × Value)}, opdsN e l = some vs → (∀ x ∈ l, Sees r e a x.2) →
    l.map (fun x => (x.1, a.eval x.2)) = vs.map (fun x => (x.1, r.val x.2)) ∧ ∀ v ∈ vs, bnd r.d v.2 = true
  | [], vs, h, _ => by simp only [opdsN, Option.some.injEq] at h; subst h; exact ⟨rfl, fun v hv => by cases hv⟩
  | x :: l, vs, h, hs => by
    simp only [opdsN] at h
    obtain ⟨v, hv, h⟩ := Option.bind_eq_some_iff.1 h
    obtain ⟨vs', hvs, rfl⟩ := Option.map_eq_some_iff.1 h
    obtain ⟨h1, h2⟩ := opdsN_ok hvs fun y hy => hs y (List.mem_cons_of_mem _ hy)
    obtain ⟨h3, h4⟩ := hs x (List.mem_cons_self ..) v hv
    refine ⟨by rw [List.map_cons, List.map_cons, h1, h3], fun u hu => ?_⟩
    rcases List.mem_cons.1 hu with rfl | hu
    · exact h4
    · exact h2 u hu
theorem opdo_ok {x : Option Operand} {v : Option Value} (h : opdo e x = some v) (hs : ∀ y, x = some y → Sees r e a y) : x.map a.eval = v.map r.val := by
  cases x with
  | none => simp only [opdo, Option.some.injEq] at h; subst h; rfl
  | some x =>
    simp only [opdo] at h
    obtain ⟨u, hu, rfl⟩ := Option.map_eq_some_iff.1 h
    rw [Option.map_some, Option.map_some, (hs x rfl u hu).1]

/-- What an operation comes to: a value, or the entering of a function. -/
def Comes' (P : Program) (r : Ren) (s : St) (w : World) (x : Sem Next) (v : Value) (s' : St) : Prop :=
  ∃ r' w', (x.run P w = .ok (.value (r'.val v)) w' ∨ (x.run P w = .ok .skip w' ∧ v = undef)) ∧ To r s w r' s' w' ∧ bnd r'.d v = true
theorem Yld.comes {x : Sem Value} {v : Value} (h : Yld P r s w x v s') : Comes' P r s w (do pure (.value (← x))) v s' := by
  obtain ⟨r', w', h1, h2, h3⟩ := h
  exact ⟨r', w', .inl (by simp only [Sem.run_bind, h1, Result.andThen_ok, Sem.run_pure]), h2, h3⟩

theorem xpure_ok {o : Oper} {v : Value} (h : xpure P e s o = some (v, s')) (hs : ∀ x ∈ o.op.operands, Sees r e a x) (hsel : ∀ cs b, o.op ≠ .select cs b) (w : World) :
    s' = s ∧ (execOp a.eval o).run P w = .ok (.value (r.val v)) w ∧ bnd r.d v = true := by
  unfold xpure at h
  generalize hc : (o.op.operands.toList.all fun x => match opd e x with | some v => flat1 v | none => false) = c at h
  cases c
  · cases h
  simp only [cond_true] at h
  obtain ⟨x, hx, h⟩ := Option.bind_eq_some_iff.1 h
  split at h
  · rename_i v'
    cases hf : flat1 v'
    · rw [hf] at h; cases h
    rw [hf] at h
    simp only [cond_true, Option.some.injEq, Prod.mk.injEq] at h
    obtain ⟨rfl, rfl⟩ := h
    have hcong : execOp a.eval o = execOp (opT e) o := execOp_congr o hsel fun x hx => by
      have := List.all_eq_true.1 hc x (by simpa using hx)
      cases hv : opd e x with
      | none => rw [hv] at this; cases this
      | some u =>
        rw [hv] at this
        simp only [] at this
        unfold opT
        rw [hv, (hs x hx u hv).1, val_flat1 r this]
        rfl
    refine ⟨rfl, ?_, bnd_flat1 _ hf⟩
    rw [hcong, pureRun_run _ _ hx w, val_flat1 r hf]
  · cases h
theorem pure_comes {o : Oper} {v : Value} (h : xpure P e s o = some (v, s')) (hs : ∀ x ∈ o.op.operands, Sees r e a x) (hsel : ∀ cs b, o.op ≠ .select cs b) (hg : Good r s w) (hO : s'.O) :
    s.O ∧ Comes' P r s w (execOp a.eval o) v s' := by
  obtain ⟨rfl, h1, h2⟩ := xpure_ok h hs hsel w
  exact ⟨hO, r, w, .inl h1, To.refl hg, h2⟩

def Enters (P : Program) (f : FuncId) : Prop := ∀ args w, (callFunc f args).run P w = .ok (.enter f args) w
/-- What a call comes to. -/
def CallOk (P : Program) (f : FuncId) (args : List Value) (s : St) (v : Value) (s' : St) : Prop :=
  ∀ r w, WFn s → Good r s w → Fresh r s.n s'.n → (∀ u ∈ args, bnd r.d u = true) → Calls P f (args.map r.val).toArray w fun e w' => ∃ r', e = .returned (r'.val v) ∧ To r s w r' s' w' ∧ bnd r'.d v = true
def SoundCall (P : Program) (call : CallK) : Prop := ∀ f args s v s', call f args s = some (v, s') → Mono s s' ∧ (s'.O → Enters P f ∧ CallOk P f args s v s')

theorem xbin_ok {o : Oper} {op : BinOp} {t ty : TypeId} {x y : Operand} {u1 u2 v : Value} (ho : o.op = .binOp op t x y ty) (hx : opd e x = some u1) (hy : opd e y = some u2) (h : xbin P e s o op t u1 u2 = some (v, s')) (hO : s'.O)
    (hs : ∀ x ∈ o.op.operands, Sees r e a x) (hg : Good r s w) : s.O ∧ Comes' P r s w (execOp a.eval o) v s' := by
  have hsel : ∀ cs b, o.op ≠ .select cs b := fun cs b => by rw [ho]; simp
  have ex : a.eval x = r.val u1 := (hs x (by rw [ho]; simp [Op.operands]) u1 hx).1
  have ey : a.eval y = r.val u2 := (hs y (by rw [ho]; simp [Op.operands]) u2 hy).1
  have hex : execOp a.eval o = (do pure (.value (← (do eqGuard op t x y (r.val u1) (r.val u2); binOp op t (r.val u1) (r.val u2))))) := by
    unfold execOp; rw [ho]; simp only [ex, ey]
  unfold xbin at h
  split at h
  · rename_i b1 b2
    obtain ⟨v', hv, h⟩ := Option.map_eq_some_iff.1 h
    simp only [Prod.mk.injEq] at h
    obtain ⟨rfl, rfl⟩ := h
    obtain ⟨h1, h2⟩ := xstr_ok hv w (P := P)
    refine ⟨hO, r, w, .inl ?_, To.refl hg, bnd_flat0 _ h2⟩
    rw [hex, val_string, val_string, val_flat0 r h2]
    have hg0 : ∀ w, (eqGuard op t x y (.string b1) (.string b2)).run P w = .ok () w := fun w => by
      unfold eqGuard; split <;> rfl
    have hb : binOp op t (.string b1) (.string b2) = Op.stringOp op b1 b2 := by cases op <;> rfl
    simp only [Sem.run_bind, hg0, Result.andThen_ok, hb, h1, Sem.run_pure]
  · exact pure_comes h hs hsel hg hO
  · exact pure_comes h hs hsel hg hO
  · exact pure_comes h hs hsel hg hO
  · rename_i hn1 hn2 hn3 hn4
    have key : ∀ b, xeqNil P t u1 u2 = some b → (op = .eql ∨ op = .neq) → (∀ w, (eqGuard op t x y (r.val u1) (r.val u2)).run P w = .ok () w) ∧ binOp .eql t (r.val u1) (r.val u2) = (do pure (.bool (← Op.equal t (r.val u1) (r.val u2)))) ∧ binOp .neq t (r.val u1) (r.val u2) = (do pure (.bool (!(← Op.equal t (r.val u1) (r.val u2))))) := by
      intro b hb _
      unfold xeqNil at hb
      obtain ⟨d, hd, hb⟩ := Option.bind_eq_some_iff.1 hb
      obtain ⟨p, hp, hb⟩ := Option.bind_eq_some_iff.1 hb
      obtain ⟨q, hq, _⟩ := Option.bind_eq_some_iff.1 hb
      cases u1 <;> simp only [isNilV, reduceCtorEq] at hp <;> cases u2 <;> simp only [isNilV, reduceCtorEq] at hq <;>
        (refine ⟨fun w => ?_, ?_, ?_⟩ <;> simp only [val_ptr, val_slice, val_nilFunc, val_func] <;> first | rfl | (unfold eqGuard; split <;> rfl))
    split at h
    · obtain ⟨b, hb, h⟩ := Option.map_eq_some_iff.1 h
      simp only [Prod.mk.injEq] at h
      obtain ⟨rfl, rfl⟩ := h
      obtain ⟨k1, k2, _⟩ := key b hb (.inl rfl)
      refine ⟨hO, r, w, .inl ?_, To.refl hg, bnd_bool _ _⟩
      rw [hex, k2, val_bool]
      simp only [Sem.run_bind, k1, Result.andThen_ok, xeqNil_ok hb, Sem.run_pure]
    · obtain ⟨b, hb, h⟩ := Option.map_eq_some_iff.1 h
      simp only [Prod.mk.injEq] at h
      obtain ⟨rfl, rfl⟩ := h
      obtain ⟨k1, _, k3⟩ := key b hb (.inr rfl)
      refine ⟨hO, r, w, .inl ?_, To.refl hg, bnd_bool _ _⟩
      rw [hex, k3, val_bool]
      simp only [Sem.run_bind, k1, Result.andThen_ok, xeqNil_ok hb, Sem.run_pure]
    · cases h

theorem xconvert_ok {o : Oper} {src dst : TypeId} {x : Operand} {u v : Value} (ho : o.op = .convert src dst x) (hx : opd e x = some u) (h : xconvert P e s o src dst u = some (v, s')) (hO : s'.O)
    (hs : ∀ x ∈ o.op.operands, Sees r e a x) (hg : Good r s w) (hfr : Fresh r s.n s'.n) : s.O ∧ Comes' P r s w (execOp a.eval o) v s' := by
  have hsel : ∀ cs b, o.op ≠ .select cs b := fun cs b => by rw [ho]; simp
  have ex : a.eval x = r.val u := (hs x (by rw [ho]; simp [Op.operands]) u hx).1
  have hex : execOp a.eval o = (do pure (.value (← convert src dst (r.val u)))) := by
    unfold execOp; rw [ho]; simp only [ex]
  unfold xconvert at h
  split at h
  · rename_i b
    obtain ⟨d0, hd0, h⟩ := Option.bind_eq_some_iff.1 h
    obtain ⟨d, hd, h⟩ := Option.bind_eq_some_iff.1 h
    split at h
    · rename_i el _
      obtain ⟨k, hk, h⟩ := Option.bind_eq_some_iff.1 h
      split at h
      · obtain ⟨h1, h2⟩ := xtoBytes_ok h hd0 hd hk hg hfr
        exact ⟨h1 ▸ hO, by rw [hex, val_string]; exact h2.comes⟩
      · cases h
    · simp only [Option.some.injEq, Prod.mk.injEq] at h
      obtain ⟨rfl, rfl⟩ := h
      refine ⟨hO, r, w, .inl ?_, To.refl hg, bnd_string _ _⟩
      rw [hex, val_string]
      unfold convert
      simp only [Sem.run_bind, run_underlying hd0, run_underlying hd, Result.andThen_ok]
      rfl
    · cases h
  · rename_i a1 l1 c1
    obtain ⟨d, hd, h⟩ := Option.bind_eq_some_iff.1 h
    obtain ⟨d', hd', h⟩ := Option.bind_eq_some_iff.1 h
    split at h
    · rename_i el _
      obtain ⟨k, hk, h⟩ := Option.bind_eq_some_iff.1 h
      split at h
      · obtain ⟨rfl, hy⟩ := xtoString_ok h hd hk hd' hg
        exact ⟨hO, by rw [hex]; exact hy.comes⟩
      · cases h
    · cases h
  · exact pure_comes h hs hsel hg hO
  · cases h
theorem xcall_ok {o : Oper} {c : Call} {call : CallK} {v : Value} (ho : o.op = .call c) (h : xcall P call e s o c = some (v, s')) (hO : s'.O) (hs : ∀ x ∈ o.op.operands, Sees r e a x) (hg : Good r s w) (hfr : Fresh r s.n s'.n) (hcall : SoundCall P call) :
    s.O ∧ (Comes' P r s w (execOp a.eval o) v s' ∨ ∃ f args, (execOp a.eval o).run P w = .ok (.enter f (args.map r.val).toArray) w ∧ CallOk P f args s v s' ∧ ∀ u ∈ args, bnd r.d u = true) := by
  have hsel : ∀ cs b, o.op ≠ .select cs b := fun cs b => by rw [ho]; simp
  have hop : ∀ x ∈ c.args.toList, Sees r e a x := fun x hx => hs x (by rw [ho]; simp only [Op.operands, Call.operands]; exact Array.mem_append_right _ (by simpa using hx))
  have hpure : xpure P e s o = some (v, s') → _ := fun h => pure_comes h hs hsel hg hO
  unfold xcall at h
  split at h
  · rename_i hc
    split at h
    · rename_i x y t ts hargs hts
      obtain ⟨u1, h1, h⟩ := Option.bind_eq_some_iff.1 h
      obtain ⟨u2, h2, h⟩ := Option.bind_eq_some_iff.1 h
      obtain ⟨e1, b1⟩ := hop x (by rw [hargs]; simp) u1 h1
      obtain ⟨e2, b2⟩ := hop y (by rw [hargs]; simp) u2 h2
      have ht0 : c.argTypes[0]? = some t := by rw [← Array.getElem?_toList, hts]; rfl
      have htl : ts.head? = c.argTypes.toList.tail.head? := by rw [hts]; rfl
      rw [htl] at h
      obtain ⟨h3, h4⟩ := xappend_ok (ty := o.type) ht0 h b1 b2 hg hfr
      have ha : c.args = #[x, y] := by rw [← Array.toArray_toList (xs := c.args), hargs]
      refine ⟨h3 ▸ hO, .inl ?_⟩
      have : execOp a.eval o = (do pure (.value (← Builtin.append_ c.argTypes o.type #[r.val u1, r.val u2]))) := by
        unfold execOp resolve; rw [ho]; simp only [hc, ha]
        simp only [List.map_toArray, List.map_cons, List.map_nil, e1, e2]
        rfl
      rw [this]
      exact h4.comes
    · cases h
  · rename_i hc
    split at h
    · rename_i x y t ts hargs hts
      obtain ⟨u1, h1, h⟩ := Option.bind_eq_some_iff.1 h
      obtain ⟨u2, h2, h⟩ := Option.bind_eq_some_iff.1 h
      obtain ⟨e1, b1⟩ := hop x (by rw [hargs]; simp) u1 h1
      obtain ⟨e2, b2⟩ := hop y (by rw [hargs]; simp) u2 h2
      have ht0 : c.argTypes[0]? = some t := by rw [← Array.getElem?_toList, hts]; rfl
      obtain ⟨h3, h4⟩ := xcopy_ok (ty := o.type) ht0 h b1 b2 hg
      have ha : c.args = #[x, y] := by rw [← Array.toArray_toList (xs := c.args), hargs]
      refine ⟨h3 ▸ hO, .inl ?_⟩
      have : execOp a.eval o = (do pure (.value (← Builtin.copy_ c.argTypes o.type #[r.val u1, r.val u2]))) := by
        unfold execOp resolve; rw [ho]; simp only [hc, ha]
        simp only [List.map_toArray, List.map_cons, List.map_nil, e1, e2]
        rfl
      rw [this]
      exact h4.comes
    · cases h
  · rename_i hc
    split at h
    · rename_i x t ts hargs hts
      obtain ⟨u1, h1, h⟩ := Option.bind_eq_some_iff.1 h
      obtain ⟨e1, b1⟩ := hop x (by rw [hargs]; simp) u1 h1
      have ht0 : c.argTypes[0]? = some t := by rw [← Array.getElem?_toList, hts]; rfl
      have ha : c.args = #[x] := by rw [← Array.toArray_toList (xs := c.args), hargs]
      have hex : execOp a.eval o = (do pure (.value (← Builtin.len_ c.argTypes o.type #[r.val u1]))) := by
        unfold execOp resolve; rw [ho]; simp only [hc, ha]
        simp only [List.map_toArray, List.map_cons, List.map_nil, e1]
        rfl
      unfold xlenOp at h
      simp only [lenT_eq] at h
      split at h
      · rename_i b n k
        obtain ⟨el, hel, h⟩ := Option.map_eq_some_iff.1 h
        simp only [Prod.mk.injEq] at h
        obtain ⟨rfl, rfl⟩ := h
        refine ⟨hO, .inl ⟨r, w, .inl ?_, To.refl hg, bnd_int _ _ _⟩⟩
        rw [hex, val_slice, val_int]
        simp only [Builtin.len_, ht0, List.getElem?_toArray, List.getElem?_cons_zero, Sem.run_bind, run_underlying (sliceElem_ok hel), Result.andThen_ok, Sem.run_pure]
        rfl
      · rename_i b
        obtain ⟨d, hd, h⟩ := Option.bind_eq_some_iff.1 h
        split at h
        · simp only [Option.some.injEq, Prod.mk.injEq] at h
          obtain ⟨rfl, rfl⟩ := h
          refine ⟨hO, .inl ⟨r, w, .inl ?_, To.refl hg, bnd_int _ _ _⟩⟩
          rw [hex, val_string, val_int]
          simp only [Builtin.len_, ht0, List.getElem?_toArray, List.getElem?_cons_zero, Sem.run_bind, run_underlying hd, Result.andThen_ok, Sem.run_pure, Array.length_toList]
          rfl
        · cases h
      · exact ⟨(hpure h).1, .inl (hpure h).2⟩
    · cases h
  · exact ⟨(hpure h).1, .inl (hpure h).2⟩
  · exact ⟨(hpure h).1, .inl (hpure h).2⟩
  · rename_i f hc
    obtain ⟨u, hu, h⟩ := Option.bind_eq_some_iff.1 h
    split at h
    · rename_i g first captured
      obtain ⟨args, hargs, h⟩ := Option.bind_eq_some_iff.1 h
      obtain ⟨e1, b1⟩ := hs f (by rw [ho]; simp [Op.operands, Call.operands, hc]) _ hu
      obtain ⟨m1, m2⟩ := opds_ok hargs hop
      obtain ⟨k0, k1⟩ := hcall _ _ _ _ _ h
      obtain ⟨k2, k3⟩ := k1 hO
      refine ⟨k0.2.1 hO, .inr ⟨g, _, ?_, k3, ?_⟩⟩
      · have hm : c.args.map a.eval = (args.map r.val).toArray := by
          rw [← m1]; apply Array.ext'; simp
        have hr : resolve a.eval c o.type = pure { target := .fn (.func g) (captured.map r.val), args := first.map r.val ++ (args.map r.val).toArray } := by
          unfold resolve; rw [hc]; simp only [e1, val_func, hm]; rfl
        have : execOp a.eval o = (do let d ← resolve a.eval c o.type; invoke d.target d.args) := by
          unfold execOp; rw [ho]
        rw [this, hr]
        simp only [pure_bind, invoke]
        rw [k2]
        congr 2
        apply Array.ext'
        simp
      · rw [bnd_func, Bool.and_eq_true, Bool.and_eq_true] at b1
        intro u hu
        rcases List.mem_append.1 hu with hu | hu
        · rcases List.mem_append.1 hu with hu | hu
          · exact Array.all_eq_true_iff_forall_mem.1 b1.1.2 u (by simpa using hu)
          · exact m2 u hu
        · exact Array.all_eq_true_iff_forall_mem.1 b1.2 u (by simpa using hu)
    · cases h
  · cases h
end
end Go.Proofs.Ytnnagaioiodniaa.Eng
