/-
  The abstract machine: the operations, one by one (second part).
-/
import Derived.Test.YtnnagaioiodniaaEngD
namespace Go.Proofs.Ytnnagaioiodniaa.Eng
open Go.RowKit

section
variable {P : Program} {r : Ren} {s s' : St} {w : World}
theorem map_toArray_toList (a : Array Value) : (a.toList.map r.val).toArray = a.map r.val := by apply Array.ext'; simp
theorem run_mapM_places (w : World) : ∀ (l : List Field) (pl : List (Nat × Nat)), placesP P l = some pl →
    (l.mapM fun f => do pure (f.offset, ← sizeOf f.type) : Sem (List (Nat × Nat))).run P w = .ok pl w
  | [], pl, h => by simp only [placesP, Option.some.injEq] at h; subst h; rfl
  | f :: l, pl, h => by
    simp only [placesP] at h
    obtain ⟨n, hn, h⟩ := Option.bind_eq_some_iff.1 h
    obtain ⟨pl', hpl, rfl⟩ := Option.map_eq_some_iff.1 h
    have ih := run_mapM_places w l pl' hpl
    simp only [List.mapM_cons, Sem.run_bind, run_sizeP hn, Result.andThen_ok, ih, Sem.run_pure]
theorem xbuild_ok {t : TypeId} {parts : List (Nat × Value)} {v : Value} (h : xbuild P t parts = some v) (hp : ∀ x ∈ parts, bnd r.d x.2 = true) (hg : Good r s w) :
    Yld P r s w (Instr.build t (parts.map fun x => (x.1, r.val x.2)).toArray) v s := by
  unfold xbuild at h
  obtain ⟨z, hz, h⟩ := Option.bind_eq_some_iff.1 h
  obtain ⟨d, hd, h⟩ := Option.bind_eq_some_iff.1 h
  obtain ⟨h1, h2, _⟩ := zeroP_ok hz
  have hzc : z.cells = (z.cells.toList.map r.val).toArray := by rw [map_flat0 r (List.all_eq_true.2 h2)]
  have hc : ∀ v ∈ z.cells.toList, bnd r.d v = true ∧ v.oneCell' = true := fun v hv => ⟨bnd_flat0 _ (h2 v hv), flat0_oneCell (h2 v hv)⟩
  split at h
  · rename_i fields
    obtain ⟨pl, hpl, h⟩ := Option.bind_eq_some_iff.1 h
    obtain ⟨l, hl, rfl⟩ := Option.map_eq_some_iff.1 h
    obtain ⟨h3, h4⟩ := fill_ok (r := r) (n := r.d) _ parts _ _ hl hp hc
    refine Yld.same hg ?_ (bnd_agg_list fun v hv => (h4 v hv).1)
    rw [val_agg_list]
    rw [← hzc] at h3
    have hm := run_mapM_places w fields.toList pl hpl
    simp only [Instr.build, Sem.run_bind, h1, Result.andThen_ok, run_underlying hd, Array.mapM_eq_mapM_toList, Sem.run_map, hm]
    simp only [List.getElem?_toArray, h3]
    rfl
  · rename_i len elem
    obtain ⟨n, hn, h⟩ := Option.bind_eq_some_iff.1 h
    obtain ⟨l, hl, rfl⟩ := Option.map_eq_some_iff.1 h
    obtain ⟨h3, h4⟩ := fill_ok (r := r) (n := r.d) _ parts _ _ hl hp hc
    refine Yld.same hg ?_ (bnd_agg_list fun v hv => (h4 v hv).1)
    rw [val_agg_list]
    rw [← hzc] at h3
    simp only [Instr.build, Sem.run_bind, h1, Result.andThen_ok, run_underlying hd, run_sizeP hn, h3]
    rfl
  · cases h
theorem sliceElem_ok {t elem : TypeId} (h : sliceElem P t = some elem) : P.underlying t = some (.slice elem) := by
  unfold sliceElem at h
  obtain ⟨d, hd, h⟩ := Option.bind_eq_some_iff.1 h
  split at h
  · rename_i e; simp only [Option.some.injEq] at h; subst h; exact hd
  · cases h
theorem xbuildSlice_ok {t : TypeId} {len : Nat} {parts : List (Nat × Value)} {v : Value} (h : xbuildSlice P s t len parts = some (v, s')) (hp : ∀ x ∈ parts, bnd r.d x.2 = true) (hg : Good r s w) (hfr : Fresh r s.n s'.n) :
    s'.O = s.O ∧ Yld P r s w (Instr.buildSlice t len (parts.map fun x => (x.1, r.val x.2)).toArray) v s' := by
  unfold xbuildSlice at h
  obtain ⟨elem, he, h⟩ := Option.bind_eq_some_iff.1 h
  obtain ⟨n, hn, h⟩ := Option.bind_eq_some_iff.1 h
  obtain ⟨z, hz, h⟩ := Option.bind_eq_some_iff.1 h
  obtain ⟨h1, h2, _⟩ := zeroP_ok hz
  cases hb : (Nat.ble (len * n) 16777216 && Nat.beq z.cells.size n && Nat.blt 0 n && Nat.blt len big)
  · rw [hb] at h; cases h
  rw [hb] at h
  simp only [cond_true] at h
  obtain ⟨l, hl, h⟩ := Option.map_eq_some_iff.1 h
  simp only [Prod.mk.injEq] at h
  obtain ⟨rfl, rfl⟩ := h
  simp only [Bool.and_eq_true, Nat.ble_eq, Nat.blt_eq] at hb
  obtain ⟨⟨⟨hb1, hb2⟩, hb3⟩, hb4⟩ := hb
  have hb2 := Nat.eq_of_beq_eq_true hb2
  subst hb2
  have hc : ∀ v ∈ repl len z.cells.toList, bnd r.d v = true ∧ v.oneCell' = true := fun v hv => ⟨bnd_flat0 _ (h2 v (mem_repl _ hv)), flat0_oneCell (h2 v (mem_repl _ hv))⟩
  obtain ⟨h3, h4⟩ := fill_ok (r := r) (n := r.d) _ parts _ _ hl hp hc
  have hr : (repl len z.cells.toList).map r.val = repl len z.cells.toList := by
    rw [List.map_congr_left (g := id)]
    · simp
    · intro v hv; exact val_flat0 r (h2 v (mem_repl _ hv))
  rw [hr, ← range_repl z.cells len hb3] at h3
  refine ⟨rfl, _, _, ?_, to_new0 hg (hfr s.n (Nat.le_refl _) (Nat.lt_succ_self _)) l elem h4, bnd_slice_new hb4 (Ren.with_d _ _ _ _)⟩
  rw [val_slice_new _ _ _ _ _ _ hb4]
  have h5 : ¬ (len * z.cells.size > 2 ^ 24) := by omega
  simp only [Instr.buildSlice, Sem.run_bind, run_underlying (sliceElem_ok he), Result.andThen_ok, run_sizeP hn, if_neg h5, Sem.run_ite, h1, Sem.run_pure]
  by_cases h0 : len * z.cells.size = 0
  · have hl0 : len = 0 := by rcases Nat.mul_eq_zero.1 h0 with h | h <;> omega
    subst hl0
    have e0 : ∀ (g : Nat → Value), (Array.range (0 * z.cells.size)).map g = #[] := fun g => by simp
    simp only [e0] at h3
    simp only [if_pos h0, e0, h3, Sem.run_bind, newRow, run_newObj, Result.andThen_ok, Sem.run_pure]
  · simp only [if_neg h0]
    simp only [h3, Sem.run_bind, newRow, run_newObj, Result.andThen_ok, Sem.run_pure]

theorem xfieldAddr_ok {t : TypeId} {x v : Value} {f : Nat} (h : xfieldAddr P t x f = some v) (hx : bnd r.d x = true) (hg : Good r s w) :
    Yld P r s w (Instr.fieldAt t (r.val x) f) v s := by
  unfold xfieldAddr at h
  split at h
  · rename_i a
    split at h
    · cases h
    rename_i hs
    obtain ⟨d, hd, h⟩ := Option.bind_eq_some_iff.1 h
    split at h
    · rename_i fields
      obtain ⟨fd, hf, h⟩ := Option.bind_eq_some_iff.1 h
      obtain ⟨n, hn, h⟩ := Option.bind_eq_some_iff.1 h
      cases hb : Nat.beq n 0
      · rw [hb] at h
        simp only [cond_false, Option.some.injEq] at h
        subst h
        have hn0 : n ≠ 0 := fun e => by subst e; cases hb
        rw [bnd_ptr] at hx
        refine Yld.same hg ?_ ?_
        · rw [Array.getElem?_toList] at hf
          rw [val_ptr, val_ptr, Option.map_some, Option.map_some, addr_add r a _ hs]
          simp only [Instr.fieldAt, Instr.sureAddr, Sem.run_bind, run_underlying hd, Result.andThen_ok, hf, Sem.run_pure, fieldPlace, run_sizeP hn, if_neg hn0]
        · rw [bnd_ptr]
          have : a = ⟨a.block, a.off, none⟩ := by cases a; simp at hs; subst hs; rfl
          rw [this, add_plain]
          rw [this] at hx
          exact hx
      · rw [hb] at h; cases h
    · cases h
  · cases h
theorem bndA_add {n : Nat → Bool} {m : Nat} {a : Addr} (hs : a.spot = none) (h : bndA n a = true) : bndA n (a.add m) = true := by
  have : a = ⟨a.block, a.off, none⟩ := by cases a; simp at hs; subst hs; rfl
  rw [this, add_plain]
  rw [this] at h
  exact h
theorem inLen_iff {i : Int} {n : Nat} : inLen i n = true ↔ 0 ≤ i ∧ i < n := by unfold inLen; simp
theorem upLen_iff {i : Int} {n : Nat} : upLen i n = true ↔ 0 ≤ i ∧ i ≤ n := by unfold upLen; simp
theorem xindexAddr_ok {t : TypeId} {x ix v : Value} (h : xindexAddr P s t x ix = some (v, s')) (hx : bnd r.d x = true) (hg : Good r s w) (hO : s'.O) :
    s.O ∧ Yld P r s w (Instr.indexAt t (r.val x) (r.val ix)) v s' := by
  unfold xindexAddr at h
  split at h
  · rename_i k i
    obtain ⟨d, hd, h⟩ := Option.bind_eq_some_iff.1 h
    split at h
    · rename_i len elem a _
      split at h
      · cases h
      rename_i hs
      obtain ⟨n, hn, h⟩ := Option.bind_eq_some_iff.1 h
      cases hb : (ask (inLen i len) s).1
      · rw [hb] at h; cases h
      rw [hb] at h
      simp only [cond_true, Option.some.injEq, Prod.mk.injEq] at h
      obtain ⟨rfl, rfl⟩ := h
      rw [ask_eq _ _ hO, inLen_iff] at hb
      rw [bnd_ptr] at hx
      refine ⟨ask_ob _ _ hO, Yld.ask _ hg ?_ (by rw [bnd_ptr]; exact bndA_add hs hx)⟩
      rw [val_ptr, val_ptr, val_int, Option.map_some, Option.map_some, addr_add r a _ hs]
      simp only [Instr.indexAt, Instr.sureAddr, asIntOf, Sem.run_bind, run_underlying hd, Result.andThen_ok, Sem.run_pure, if_pos hb, run_sizeP hn]
    · rename_i elem a len cap _
      split at h
      · cases h
      rename_i hs
      obtain ⟨n, hn, h⟩ := Option.bind_eq_some_iff.1 h
      cases hb : (ask (inLen i len) s).1
      · rw [hb] at h; cases h
      rw [hb] at h
      simp only [cond_true, Option.some.injEq, Prod.mk.injEq] at h
      obtain ⟨rfl, rfl⟩ := h
      rw [ask_eq _ _ hO, inLen_iff] at hb
      rw [bnd_slice, Bool.and_eq_true] at hx
      refine ⟨ask_ob _ _ hO, Yld.ask _ hg ?_ (by rw [bnd_ptr]; exact bndA_add hs hx.1)⟩
      rw [val_slice, val_ptr, val_int, Option.map_some, Option.map_some, addr_add r a _ hs]
      simp only [Instr.indexAt, Instr.sureAddr, asIntOf, Sem.run_bind, run_underlying hd, Result.andThen_ok, Sem.run_pure, if_pos hb, run_sizeP hn]
    · cases h
  · cases h
theorem xindex_ok {t : TypeId} {x ix v : Value} (h : xindex P s t x ix = some (v, s')) (hx : bnd r.d x = true) (hg : Good r s w) (hO : s'.O) :
    s.O ∧ Yld P r s w (Instr.index t (r.val x) (r.val ix)) v s' := by
  unfold xindex at h
  simp only [lenT_eq] at h
  split at h
  · rename_i k i
    obtain ⟨d, hd, h⟩ := Option.bind_eq_some_iff.1 h
    split at h
    · rename_i len elem cs _
      obtain ⟨n, hn, h⟩ := Option.bind_eq_some_iff.1 h
      cases hb : (ask (inLen i len) s).1
      · rw [hb] at h; cases h
      rw [hb] at h
      simp only [cond_true] at h
      obtain ⟨u, hu, h⟩ := Option.map_eq_some_iff.1 h
      simp only [Prod.mk.injEq] at h
      obtain ⟨rfl, rfl⟩ := h
      rw [ask_eq _ _ hO, inLen_iff] at hb
      obtain ⟨h1, h2⟩ := xpart_ok (r := r) hu (bnd_of_cells (v := .agg cs) hx) w
      refine ⟨ask_ob _ _ hO, Yld.ask _ hg ?_ h2⟩
      rw [val_agg, val_int]
      simp only [Instr.index, asIntOf, Sem.run_bind, run_underlying hd, Result.andThen_ok, Sem.run_pure, if_pos hb, run_sizeP hn]
      rw [map_toArray_toList] at h1
      exact h1
    · rename_i b _
      simp only [Option.some.injEq, Prod.mk.injEq] at h
      obtain ⟨rfl, rfl⟩ := h
      have hb := ask_is _ _ hO
      rw [inLen_iff] at hb
      refine ⟨ask_ob _ _ hO, Yld.ask _ hg ?_ (bnd_int _ _ _)⟩
      rw [val_string, val_int, val_int]
      have hlt : i.toNat < b.data.toList.length := by omega
      have hc' : b[i.toNat]? = some (b.data.toList.getD i.toNat 0) := by
        have hlt' : i.toNat < b.size := hlt
        rw [getElem?_pos b i.toNat hlt', ByteArray.getElem_eq_getElem_data, List.getD_eq_getElem?_getD, List.getElem?_eq_getElem hlt, Option.getD_some, Array.getElem_toList]
      simp only [Instr.index, asIntOf, Sem.run_bind, run_underlying hd, Result.andThen_ok, Sem.run_pure, if_pos hb.1, hc']
    · cases h
  · cases h
theorem xfield_ok {t : TypeId} {x v : Value} {f : Nat} (h : xfield P t x f = some v) (hx : bnd r.d x = true) (hg : Good r s w) :
    Yld P r s w (Instr.field t (r.val x) f) v s := by
  unfold xfield at h
  split at h
  · rename_i cs
    obtain ⟨d, hd, h⟩ := Option.bind_eq_some_iff.1 h
    split at h
    · rename_i fields
      obtain ⟨fd, hf, h⟩ := Option.bind_eq_some_iff.1 h
      obtain ⟨h1, h2⟩ := xpart_ok (r := r) h (bnd_of_cells (v := .agg cs) hx) w
      rw [Array.getElem?_toList] at hf
      refine Yld.same hg ?_ h2
      rw [val_agg]
      rw [map_toArray_toList] at h1
      simp only [Instr.field, asAgg, Sem.run_bind, run_underlying hd, Result.andThen_ok, Sem.run_pure, hf, h1]
    · cases h
  · cases h
theorem xextract_ok {x v : Value} {i : Nat} (h : xextract x i = some v) (hx : bnd r.d x = true) (hg : Good r s w) :
    Yld P r s w (Instr.extract (r.val x) i) v s := by
  unfold xextract at h
  split at h
  · rename_i vs
    rw [Array.getElem?_toList] at h
    refine Yld.same hg ?_ ?_
    · rw [val_tuple]
      simp only [Instr.extract, Array.getElem?_map, h, Option.map_some, Sem.run_pure]
    · rw [bnd_tuple, Array.all_eq_true_iff_forall_mem] at hx
      exact hx v (Array.mem_of_getElem? h)
  · cases h
end
end Go.Proofs.Ytnnagaioiodniaa.Eng
