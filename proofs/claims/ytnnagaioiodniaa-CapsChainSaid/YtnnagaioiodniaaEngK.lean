/-
  The abstract machine: every operation; lists of operations.
-/
import Derived.Test.YtnnagaioiodniaaEngJ
namespace Go.Proofs.Ytnnagaioiodniaa.Eng
open Go.RowKit

section
variable {P : Program} {r : Ren} {s s' : St} {w : World} {e : Env} {a : Act}
theorem xop_ok {o : Oper} {call : CallK} {v : Value} (h : xop P call e s o = some (v, s')) (hO : s'.O) (hs : ∀ x ∈ o.op.operands, Sees r e a x) (hg : Good r s w) (hfr : Fresh r s.n s'.n) (hcall : SoundCall P call) :
    s.O ∧ (Comes' P r s w (execOp a.eval o) v s' ∨ ∃ f args, (execOp a.eval o).run P w = .ok (.enter f (args.map r.val).toArray) w ∧ CallOk P f args s v s' ∧ ∀ u ∈ args, bnd r.d u = true) := by
  have hpure : xpure P e s o = some (v, s') → (∀ cs b, o.op ≠ .select cs b) → _ := fun h hsel => pure_comes (w := w) h hs hsel hg hO
  obtain ⟨dst, op, type, pos, after, guard⟩ := o
  unfold xop at h
  cases op <;> simp only [] at h <;> simp only [Op.operands] at hs
  case move x =>
    obtain ⟨u, hu, h⟩ := Option.map_eq_some_iff.1 h
    simp only [Prod.mk.injEq] at h
    obtain ⟨rfl, rfl⟩ := h
    obtain ⟨e1, b1⟩ := hs x (by simp) u hu
    exact ⟨hO, .inl ⟨r, w, .inl (by simp only [execOp, e1, Sem.run_pure]), To.refl hg, b1⟩⟩
  case assign x =>
    obtain ⟨u, hu, h⟩ := Option.map_eq_some_iff.1 h
    simp only [Prod.mk.injEq] at h
    obtain ⟨rfl, rfl⟩ := h
    obtain ⟨e1, b1⟩ := hs x (by simp) u hu
    exact ⟨hO, .inl ⟨r, w, .inl (by simp only [execOp, e1, Sem.run_pure]), To.refl hg, b1⟩⟩
  case pick c x y =>
    obtain ⟨cv, hc, h⟩ := Option.bind_eq_some_iff.1 h
    split at h
    · rename_i t
      obtain ⟨u, hu, h⟩ := Option.map_eq_some_iff.1 h
      simp only [Prod.mk.injEq] at h
      obtain ⟨rfl, rfl⟩ := h
      obtain ⟨e1, b1⟩ := hs c (by simp) _ hc
      rw [val_bool] at e1
      have ht := test_eq t s hO
      rw [ht] at hu
      have hx : Sees r e a (bif t then x else y) := by cases t <;> exact hs _ (by simp)
      obtain ⟨e2, b2⟩ := hx _ hu
      refine ⟨test_ob _ _ hO, .inl ⟨r, w, .inl ?_, To.test hg t, b2⟩⟩
      simp only [execOp, e1, asBool, Sem.run_bind, Sem.run_pure, Result.andThen_ok, ← e2]
      cases t <;> rfl
    · cases h
  case alloc t =>
    obtain ⟨z, hz, h⟩ := Option.map_eq_some_iff.1 h
    simp only [Prod.mk.injEq] at h
    obtain ⟨rfl, rfl⟩ := h
    exact ⟨hO, .inl (xalloc_ok hz hg (hfr _ (Nat.le_refl _) (Nat.lt_succ_self _))).comes⟩
  case box t x =>
    obtain ⟨u, hu, h⟩ := Option.bind_eq_some_iff.1 h
    cases hb : oneC u.cells.toList
    · rw [hb] at h; cases h
    rw [hb] at h
    simp only [cond_true, Option.some.injEq, Prod.mk.injEq] at h
    obtain ⟨rfl, rfl⟩ := h
    obtain ⟨e1, b1⟩ := hs x (by simp) u hu
    refine ⟨hO, .inl ?_⟩
    simp only [execOp, e1]
    exact (xbox_ok hb b1 hg (hfr _ (Nat.le_refl _) (Nat.lt_succ_self _))).comes
  case build t parts =>
    obtain ⟨ps, hps, h⟩ := Option.bind_eq_some_iff.1 h
    obtain ⟨u, hu, h⟩ := Option.map_eq_some_iff.1 h
    simp only [Prod.mk.injEq] at h
    obtain ⟨rfl, rfl⟩ := h
    obtain ⟨m1, m2⟩ := opdsN_ok hps fun x hx => hs x.2 (by simp; exact ⟨x.1, by simpa using hx⟩)
    refine ⟨hO, .inl ?_⟩
    have : (parts.map fun x => (x.1, a.eval x.2)) = (ps.map fun x => (x.1, r.val x.2)).toArray := by rw [← m1]; apply Array.ext'; simp
    simp only [execOp, this]
    exact (xbuild_ok hu m2 hg).comes
  case buildSlice t len parts =>
    obtain ⟨ps, hps, h⟩ := Option.bind_eq_some_iff.1 h
    obtain ⟨m1, m2⟩ := opdsN_ok hps fun x hx => hs x.2 (by simp; exact ⟨x.1, by simpa using hx⟩)
    obtain ⟨h1, h2⟩ := xbuildSlice_ok h m2 hg hfr
    refine ⟨h1 ▸ hO, .inl ?_⟩
    have : (parts.map fun x => (x.1, a.eval x.2)) = (ps.map fun x => (x.1, r.val x.2)).toArray := by rw [← m1]; apply Array.ext'; simp
    simp only [execOp, this]
    exact h2.comes
  case load t x =>
    obtain ⟨u, hu, h⟩ := Option.bind_eq_some_iff.1 h
    obtain ⟨e1, b1⟩ := hs x (by simp) u hu
    split at h
    · rename_i ad
      obtain ⟨v', hv, h⟩ := Option.map_eq_some_iff.1 h
      simp only [Prod.mk.injEq] at h
      obtain ⟨rfl, rfl⟩ := h
      obtain ⟨h1, h2⟩ := xloadVar_ok (P := P) hv hg
      refine ⟨hO, .inl ⟨r, w, .inl ?_, To.refl hg, h2⟩⟩
      rw [val_ptr, Option.map_some] at e1
      simp only [execOp, e1, Instr.loadAt, Instr.sureAddr, Sem.run_bind, Sem.run_pure, Result.andThen_ok, h1]
    · cases h
  case store t x y =>
    obtain ⟨u, hu, h⟩ := Option.bind_eq_some_iff.1 h
    obtain ⟨u2, hu2, h⟩ := Option.bind_eq_some_iff.1 h
    obtain ⟨e1, b1⟩ := hs x (by simp) u hu
    obtain ⟨e2, b2⟩ := hs y (by simp) u2 hu2
    split at h
    · rename_i ad
      obtain ⟨s1, hs1, h⟩ := Option.map_eq_some_iff.1 h
      simp only [Prod.mk.injEq] at h
      obtain ⟨rfl, rfl⟩ := h
      obtain ⟨h1, w', h2, h3⟩ := xstoreVar_ok (P := P) hs1 hg b2
      refine ⟨h1 ▸ hO, .inl ⟨r, w', .inr ⟨?_, rfl⟩, h3, bnd_undef _⟩⟩
      rw [val_ptr, Option.map_some] at e1
      simp only [execOp, e1, e2, Instr.storeAt, Instr.sureAddr, Sem.run_bind, Sem.run_pure, Result.andThen_ok, h2]
    · cases h
  case nilCheck x =>
    obtain ⟨u, hu, h⟩ := Option.bind_eq_some_iff.1 h
    obtain ⟨v', hv, h⟩ := Option.map_eq_some_iff.1 h
    simp only [Prod.mk.injEq] at h
    obtain ⟨rfl, rfl⟩ := h
    obtain ⟨e1, b1⟩ := hs x (by simp) u hu
    unfold xnilCheck at hv
    split at hv
    · simp only [Option.some.injEq] at hv
      subst hv
      refine ⟨hO, .inl ⟨r, w, .inl ?_, To.refl hg, b1⟩⟩
      rw [val_ptr, Option.map_some] at e1 ⊢
      simp only [execOp, e1]
      rfl
    · simp only [Option.some.injEq] at hv
      subst hv
      refine ⟨hO, .inl ⟨r, w, .inl ?_, To.refl hg, b1⟩⟩
      rw [val_func] at e1 ⊢
      simp only [execOp, e1]
      rfl
    · cases hv
  case binOp op t x y ty =>
    obtain ⟨u1, h1, h⟩ := Option.bind_eq_some_iff.1 h
    obtain ⟨u2, h2, h⟩ := Option.bind_eq_some_iff.1 h
    obtain ⟨k1, k2⟩ := xbin_ok (o := ⟨dst, .binOp op t x y ty, type, pos, after, guard⟩) rfl h1 h2 h hO hs hg
    exact ⟨k1, .inl k2⟩
  case unOp op t x => exact ⟨(hpure h (by simp)).1, .inl (hpure h (by simp)).2⟩
  case convert src dst x =>
    obtain ⟨u, hu, h⟩ := Option.bind_eq_some_iff.1 h
    obtain ⟨k1, k2⟩ := xconvert_ok (o := ⟨_, .convert src dst x, type, pos, after, guard⟩) rfl hu h hO hs hg hfr
    exact ⟨k1, .inl k2⟩
  case makeFunc fn first captured =>
    split at h
    · rename_i f
      obtain ⟨l1, h1, h⟩ := Option.bind_eq_some_iff.1 h
      obtain ⟨l2, h2, h⟩ := Option.map_eq_some_iff.1 h
      simp only [Prod.mk.injEq] at h
      obtain ⟨rfl, rfl⟩ := h
      obtain ⟨m1, b1⟩ := opds_ok h1 fun x hx => hs x (Array.mem_append_left _ (by simpa using hx))
      obtain ⟨m2, b2⟩ := opds_ok h2 fun x hx => hs x (Array.mem_append_right _ (by simpa using hx))
      refine ⟨hO, .inl ⟨r, w, .inl ?_, To.refl hg, ?_⟩⟩
      · rw [val_func]
        have e1 : first.map a.eval = (⟨l1⟩ : Array Value).map r.val := by apply Array.ext'; simp [m1]
        have e2 : captured.map a.eval = (⟨l2⟩ : Array Value).map r.val := by apply Array.ext'; simp [m2]
        simp only [execOp, Instr.makeFunc, e1, e2]
        rfl
      · rw [bnd_func]
        simp only [Bool.true_and, Bool.and_eq_true]
        exact ⟨Array.all_eq_true_iff_forall_mem.2 fun v hv => b1 v (by simpa using hv), Array.all_eq_true_iff_forall_mem.2 fun v hv => b2 v (by simpa using hv)⟩
    · cases h
  case makeSlice t l c =>
    obtain ⟨u1, h1, h⟩ := Option.bind_eq_some_iff.1 h
    obtain ⟨u2, h2, h⟩ := Option.bind_eq_some_iff.1 h
    obtain ⟨e1, b1⟩ := hs l (by simp) u1 h1
    obtain ⟨e2, b2⟩ := hs c (by simp) u2 h2
    obtain ⟨k1, k2⟩ := xmakeSlice_ok h hg hfr hO
    refine ⟨k1, .inl ?_⟩
    simp only [execOp, e1, e2]
    exact k2.comes
  case slice t x lo hi mx =>
    obtain ⟨u, h1, h⟩ := Option.bind_eq_some_iff.1 h
    obtain ⟨lo', h2, h⟩ := Option.bind_eq_some_iff.1 h
    obtain ⟨hi', h3, h⟩ := Option.bind_eq_some_iff.1 h
    obtain ⟨mx', h4, h⟩ := Option.bind_eq_some_iff.1 h
    obtain ⟨e1, b1⟩ := hs x (by simp) u h1
    have e2 := opdo_ok h2 fun y hy => hs y (by subst hy; simp)
    have e3 := opdo_ok h3 fun y hy => hs y (by subst hy; simp)
    have e4 := opdo_ok h4 fun y hy => hs y (by subst hy; simp)
    obtain ⟨k1, k2⟩ := xslice_ok h b1 hg hfr hO
    refine ⟨k1, .inl ?_⟩
    simp only [execOp, e1, e2, e3, e4]
    exact k2.comes
  case fieldAddr t x f =>
    obtain ⟨u, hu, h⟩ := Option.bind_eq_some_iff.1 h
    obtain ⟨v', hv, h⟩ := Option.map_eq_some_iff.1 h
    simp only [Prod.mk.injEq] at h
    obtain ⟨rfl, rfl⟩ := h
    obtain ⟨e1, b1⟩ := hs x (by simp) u hu
    refine ⟨hO, .inl ?_⟩
    simp only [execOp, e1]
    exact (xfieldAddr_ok hv b1 hg).comes
  case field t x f =>
    obtain ⟨u, hu, h⟩ := Option.bind_eq_some_iff.1 h
    obtain ⟨v', hv, h⟩ := Option.map_eq_some_iff.1 h
    simp only [Prod.mk.injEq] at h
    obtain ⟨rfl, rfl⟩ := h
    obtain ⟨e1, b1⟩ := hs x (by simp) u hu
    refine ⟨hO, .inl ?_⟩
    simp only [execOp, e1]
    exact (xfield_ok hv b1 hg).comes
  case indexAddr t x i =>
    obtain ⟨u1, h1, h⟩ := Option.bind_eq_some_iff.1 h
    obtain ⟨u2, h2, h⟩ := Option.bind_eq_some_iff.1 h
    obtain ⟨e1, b1⟩ := hs x (by simp) u1 h1
    obtain ⟨e2, b2⟩ := hs i (by simp) u2 h2
    obtain ⟨k1, k2⟩ := xindexAddr_ok h b1 hg hO
    refine ⟨k1, .inl ?_⟩
    simp only [execOp, e1, e2]
    exact k2.comes
  case index t x i =>
    obtain ⟨u1, h1, h⟩ := Option.bind_eq_some_iff.1 h
    obtain ⟨u2, h2, h⟩ := Option.bind_eq_some_iff.1 h
    obtain ⟨e1, b1⟩ := hs x (by simp) u1 h1
    obtain ⟨e2, b2⟩ := hs i (by simp) u2 h2
    obtain ⟨k1, k2⟩ := xindex_ok h b1 hg hO
    refine ⟨k1, .inl ?_⟩
    simp only [execOp, e1, e2]
    exact k2.comes
  case extract x i =>
    obtain ⟨u, hu, h⟩ := Option.bind_eq_some_iff.1 h
    obtain ⟨v', hv, h⟩ := Option.map_eq_some_iff.1 h
    simp only [Prod.mk.injEq] at h
    obtain ⟨rfl, rfl⟩ := h
    obtain ⟨e1, b1⟩ := hs x (by simp) u hu
    refine ⟨hO, .inl ?_⟩
    simp only [execOp, e1]
    exact (xextract_ok hv b1 hg).comes
  case call c => exact xcall_ok (o := ⟨dst, .call c, type, pos, after, guard⟩) rfl h hO hs hg hfr hcall
  all_goals cases h
end
end Go.Proofs.Ytnnagaioiodniaa.Eng
