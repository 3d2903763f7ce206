/-
  The abstract machine: the operations, one by one.
-/
import Derived.Test.YtnnagaioiodniaaEngC
import Derived.Laws.Strings
import Derived.Laws.Strings2
import Derived.Laws.Concat
namespace Go.Proofs.Ytnnagaioiodniaa.Eng
open Go.RowKit

section
variable {P : Program} {r : Ren} {s s' : St} {w : World}
theorem run_isAggP {t : TypeId} {b : Bool} (h : isAggP P t = some b) (w : World) : (isAgg t).run P w = .ok b w := by
  unfold isAggP at h
  obtain ⟨d, hd, rfl⟩ := Option.map_eq_some_iff.1 h
  unfold isAgg
  simp only [Sem.run_bind, run_underlying hd, Result.andThen_ok]
  cases d <;> rfl
theorem run_typeInfo {t : TypeId} {i : TypeInfo} (h : P.info? t = some i) (w : World) : (typeInfo t).run P w = .ok i w := by
  unfold typeInfo
  simp only [Sem.run_bind, run_program, Result.andThen_ok, h]
  rfl
theorem run_sizeP {t : TypeId} {n : Nat} (h : sizeP P t = some n) (w : World) : (sizeOf t).run P w = .ok n w := by
  unfold sizeP at h
  obtain ⟨i, hi, rfl⟩ := Option.map_eq_some_iff.1 h
  unfold sizeOf
  simp only [Sem.run_bind, run_typeInfo hi, Result.andThen_ok]
  rfl
theorem zeroP_ok {t : TypeId} {z : Value} (h : zeroP P t = some z) : (∀ w, (zeroValue t).run P w = .ok z w) ∧ (∀ v ∈ z.cells.toList, flat0 v = true) ∧ flat1 z = true := by
  unfold zeroP at h
  obtain ⟨i, hi, h⟩ := Option.bind_eq_some_iff.1 h
  obtain ⟨z', hz, h⟩ := Option.bind_eq_some_iff.1 h
  cases hc : (z'.cells.toList.all flat0 && flat1 z')
  · rw [hc] at h; cases h
  rw [hc] at h
  simp only [cond_true, Option.some.injEq] at h
  subst h
  simp only [Bool.and_eq_true] at hc
  refine ⟨fun w => ?_, fun v hv => List.all_eq_true.1 hc.1 v hv, hc.2⟩
  unfold zeroValue
  simp only [Sem.run_bind, run_typeInfo hi, Result.andThen_ok, hz]
  rfl
theorem flat0_oneCell {v : Value} (h : flat0 v = true) : v.oneCell' = true := by cases v <;> first | rfl | (simp [flat0] at h; done)
theorem bnd_of_cells {n : Nat → Bool} {v : Value} (h : bnd n v = true) : ∀ u ∈ v.cells.toList, bnd n u = true := by
  intro u hu
  cases v <;> (try (simp only [Value.cells, List.mem_singleton] at hu; subst hu; exact h))
  simp only [Value.cells] at hu
  rw [bnd_agg, Array.all_eq_true_iff_forall_mem] at h
  exact h u (by simpa using hu)
theorem bnd_agg_list {n : Nat → Bool} {l : List Value} (h : ∀ v ∈ l, bnd n v = true) : bnd n (.agg ⟨l⟩) = true := by
  rw [bnd_agg, Array.all_eq_true_iff_forall_mem]
  exact fun v hv => h v (by simpa using hv)
theorem val_agg_list (r : Ren) (l : List Value) : r.val (.agg ⟨l⟩) = .agg (l.map r.val).toArray := by rw [val_agg]; simp

theorem rdCells_cell {a : Addr} {n : Nat} {l : List Value} (h : rdCells s a n = some l) (hg : Good r s w) :
    a.spot = none ∧ l.length = n ∧ (∀ (j : Nat) (v : Value), l[j]? = some v → w.cell? ((r.addr a).add j) = some (r.val v)) ∧ ∀ v ∈ l, bnd r.d v = true ∧ v.oneCell' = true := by
  obtain ⟨_, h2, h3, h4⟩ := rdCells_ok (P := default) h hg
  refine ⟨h3, h2, fun j v hj => ?_, h4⟩
  unfold rdCells at h
  rw [h3] at h
  simp only [] at h
  obtain ⟨k, hk, h⟩ := Option.bind_eq_some_iff.1 h
  cases hn : hasN (a.off + n) k.cells
  · rw [hn] at h; cases h
  rw [hn] at h
  simp only [cond_true, Option.some.injEq] at h
  subst h
  rw [addr_plain r a h3, add_plain]
  rw [List.getElem?_take] at hj
  split at hj
  · rw [List.getElem?_drop] at hj
    exact (hg.is _ _ hk).cell hj
  · cases hj

theorem xloadVar_ok {t : TypeId} {a : Addr} {v : Value} (h : xloadVar P s t a = some v) (hg : Good r s w) : (loadVar t (r.addr a)).run P w = .ok (r.val v) w ∧ bnd r.d v = true := by
  unfold xloadVar at h
  obtain ⟨g, hgg, h⟩ := Option.bind_eq_some_iff.1 h
  unfold loadVar
  cases g
  · simp only [cond_false] at h
    obtain ⟨l, hl, h⟩ := Option.bind_eq_some_iff.1 h
    obtain ⟨_, _, h3, h4⟩ := rdCells_cell hl hg
    split at h
    · simp only [Option.some.injEq] at h
      subst h
      rename_i u _ _
      have hc := h3 0 u rfl
      have : (r.addr a).add 0 = r.addr a := by simp [Addr.add]
      rw [this] at hc
      simp only [Sem.run_bind, run_isAggP hgg, Result.andThen_ok, Bool.false_eq_true, if_false, run_load, hc]
      exact ⟨trivial, (h4 u (by simp)).1⟩
    · cases h
  · simp only [cond_true] at h
    obtain ⟨n, hn, h⟩ := Option.bind_eq_some_iff.1 h
    obtain ⟨l, hl, rfl⟩ := Option.map_eq_some_iff.1 h
    obtain ⟨h1, _, _, h4⟩ := rdCells_ok (P := P) hl hg
    simp only [Sem.run_bind, run_isAggP hgg, Result.andThen_ok, if_true, run_sizeP hn, h1, Sem.run_pure]
    exact ⟨by rw [val_agg_list], bnd_agg_list fun v hv => (h4 v hv).1⟩
theorem xstoreVar_ok {t : TypeId} {a : Addr} {v : Value} (h : xstoreVar P s t a v = some s') (hg : Good r s w) (hv : bnd r.d v = true) :
    s'.O = s.O ∧ ∃ w', (storeVar t (r.addr a) (r.val v)).run P w = .ok () w' ∧ To r s w r s' w' := by
  unfold xstoreVar at h
  obtain ⟨n, hn, h⟩ := Option.bind_eq_some_iff.1 h
  cases hc : Nat.beq v.cells.size n
  · rw [hc] at h; cases h
  rw [hc] at h
  simp only [cond_true] at h
  obtain ⟨_, h2, w', h3, h4⟩ := wrCells_ok (P := P) h hg (bnd_of_cells hv)
  refine ⟨h2, w', ?_, h4⟩
  have hsz : ((r.val v).cells.size ≠ n) = False := by
    rw [val_cells]; simp [Nat.eq_of_beq_eq_true hc]
  have hcl : (r.val v).cells.toList = v.cells.toList.map r.val := by rw [val_cells]; simp
  unfold storeVar
  simp only [Sem.run_bind, run_sizeP hn, Result.andThen_ok, hsz, if_false, hcl]
  simpa using h3
theorem xpart_ok {t : TypeId} {cs : List Value} {off : Nat} {v : Value} {n : Nat → Bool} (h : xpart P t cs off = some v) (hb : ∀ u ∈ cs, bnd n u = true) (w : World) :
    (part t (cs.map r.val).toArray off).run P w = .ok (r.val v) w ∧ bnd n v = true := by
  unfold xpart at h
  obtain ⟨g, hg, h⟩ := Option.bind_eq_some_iff.1 h
  unfold part
  cases g
  · simp only [cond_false] at h
    have : (cs.map r.val).toArray[off]? = some (r.val v) := by simp [h]
    simp only [Sem.run_bind, run_isAggP hg, Result.andThen_ok, Bool.false_eq_true, if_false, this, Sem.run_pure]
    exact ⟨trivial, hb v (List.mem_of_getElem? h)⟩
  · simp only [cond_true] at h
    obtain ⟨n', hn, rfl⟩ := Option.map_eq_some_iff.1 h
    simp only [Sem.run_bind, run_isAggP hg, Result.andThen_ok, if_true, run_sizeP hn, Sem.run_pure]
    refine ⟨?_, bnd_agg_list fun u hu => hb u (List.mem_of_mem_drop (List.mem_of_mem_take hu))⟩
    rw [val_agg_list]
    congr 2
    apply Array.ext'
    simp [List.map_take, List.map_drop]

/-- What it yields, and whereto. -/
def Yld (P : Program) (r : Ren) (s : St) (w : World) (x : Sem Value) (v : Value) (s' : St) : Prop :=
  ∃ r' w', x.run P w = .ok (r'.val v) w' ∧ To r s w r' s' w' ∧ bnd r'.d v = true
theorem Yld.same {x : Sem Value} {v : Value} (hg : Good r s w) (h : x.run P w = .ok (r.val v) w) (hb : bnd r.d v = true) : Yld P r s w x v s := ⟨r, w, h, To.refl hg, hb⟩
theorem Yld.ask {x : Sem Value} {v : Value} (t : Bool) (hg : Good r s w) (h : x.run P w = .ok (r.val v) w) (hb : bnd r.d v = true) : Yld P r s w x v (Eng.ask t s).2 :=
  ⟨r, w, h, To.ask hg t, hb⟩
theorem Yld.test {x : Sem Value} {v : Value} (t : Bool) (hg : Good r s w) (h : x.run P w = .ok (r.val v) w) (hb : bnd r.d v = true) : Yld P r s w x v (Eng.test t s).2 :=
  ⟨r, w, h, To.test hg t, hb⟩
theorem val_ptr_new (r : Ren) (n b c : Nat) : (r.with n b c).val (ptr n 0) = .pointer (some ⟨b, 0, none⟩) := by
  unfold ptr; rw [val_ptr, Option.map_some, addr_plain _ _ rfl]; simp [Ren.with]
theorem val_slice_new (r : Ren) (n b c l k : Nat) (hk : k < big) : (r.with n b c).val (.slice (some ⟨n, 0, none⟩) l k) = .slice (some ⟨b, 0, none⟩) l k := by
  have hk' : Nat.blt k big = true := by simpa using hk
  rw [val_slice, Option.map_some, addr_plain _ _ rfl]
  simp [Ren.with, Ren.cap, hk']
theorem cap_letter (r : Ren) (n : Nat) : r.cap (big + n) = r.c n := by
  unfold Ren.cap
  have : Nat.blt (big + n) big = false := by
    cases h : Nat.blt (big + n) big
    · rfl
    · simp at h; omega
  rw [this]
  simp
theorem val_slice_open (r : Ren) (n b c l : Nat) : (r.with n b c).val (.slice (some ⟨n, 0, none⟩) l (big + n)) = .slice (some ⟨b, 0, none⟩) l c := by
  rw [val_slice, Option.map_some, addr_plain _ _ rfl, cap_letter]
  simp [Ren.with]
theorem bnd_slice_new {n l k : Nat} {m : Nat → Bool} (hk : k < big) (hn : m n = true) : bnd m (.slice (some ⟨n, 0, none⟩) l k) = true := by
  rw [bnd_slice]
  simp [bndA, hn, hk]
theorem bnd_slice_open {n l : Nat} {m : Nat → Bool} (hn : m n = true) : bnd m (.slice (some ⟨n, 0, none⟩) l (big + n)) = true := by
  rw [bnd_slice]
  simp [bndA, hn]

theorem xalloc_ok {t : TypeId} {z : Value} (h : zeroP P t = some z) (hg : Good r s w) (hfr : r.d s.n = false) :
    Yld P r s w (Instr.alloc t true (.tuple #[])) (ptr s.n 0) (newBlk s none z.cells.toList) := by
  obtain ⟨h1, h2, _⟩ := zeroP_ok h
  refine ⟨_, _, ?_, to_new0 hg hfr z.cells.toList t fun v hv => ⟨bnd_flat0 _ (h2 v hv), flat0_oneCell (h2 v hv)⟩, bnd_ptr0 (Ren.with_d _ _ _ _)⟩
  rw [val_ptr_new, map_flat0 r (List.all_eq_true.2 h2)]
  simp only [Instr.alloc, Sem.run_bind, h1, Result.andThen_ok, newVar, newRow, run_newObj, Sem.run_pure]
theorem xbox_ok {t : TypeId} {v : Value} (h : oneC v.cells.toList = true) (hb : bnd r.d v = true) (hg : Good r s w) (hfr : r.d s.n = false) :
    Yld P r s w (Instr.box t (r.val v)) (ptr s.n 0) (newBlk s none v.cells.toList) := by
  refine ⟨_, _, ?_, to_new0 hg hfr v.cells.toList t fun u hu => ⟨bnd_of_cells hb u hu, List.all_eq_true.1 h u hu⟩, bnd_ptr0 (Ren.with_d _ _ _ _)⟩
  have hcl : (r.val v).cells = (v.cells.toList.map r.val).toArray := by rw [val_cells]; apply Array.ext'; simp
  rw [val_ptr_new]
  simp only [Instr.box, Sem.run_bind, Result.andThen_ok, newVar, newRow, run_newObj, Sem.run_pure, hcl]

theorem zip_fold (off : Nat) : ∀ (vs : List Value) (k : Nat) (arr : Array Value), off + k + vs.length ≤ arr.size →
    ((vs.zipIdx k).foldl (fun cs x => cs.setIfInBounds (off + x.2) x.1) arr).size = arr.size ∧
    ∀ j : Nat, ((vs.zipIdx k).foldl (fun cs x => cs.setIfInBounds (off + x.2) x.1) arr)[j]? = if off + k ≤ j ∧ j < off + k + vs.length then vs[j - (off + k)]? else arr[j]?
  | [], k, arr, h => ⟨rfl, fun j => by rw [if_neg (by simp)]; rfl⟩
  | v :: vs, k, arr, h => by
    simp only [List.length_cons] at h
    obtain ⟨h1, h2⟩ := zip_fold off vs (k + 1) (arr.setIfInBounds (off + k) v) (by simp; omega)
    simp only [List.zipIdx_cons, List.foldl_cons]
    refine ⟨by rw [h1]; simp, fun j => ?_⟩
    rw [h2 j]
    by_cases hj : off + (k + 1) ≤ j ∧ j < off + (k + 1) + vs.length
    · rw [if_pos hj, if_pos (by simp only [List.length_cons]; omega), show j - (off + k) = (j - (off + (k + 1))) + 1 by omega]
      simp
    · rw [if_neg hj]
      by_cases hj' : j = off + k
      · subst hj'
        rw [if_pos (by simp only [List.length_cons]; omega)]
        have hlt : off + k < arr.size := by omega
        simp [hlt]
      · rw [if_neg (by simp only [List.length_cons]; omega), Array.getElem?_setIfInBounds_ne (by omega)]
theorem zip_fold_setAt (off : Nat) (vs cells : List Value) (h : off + vs.length ≤ cells.length) :
    (vs.toArray.zipIdx.foldl (fun cs x => cs.setIfInBounds (off + x.2) x.1) cells.toArray) = (setAt off vs cells).toArray := by
  rw [← Array.foldl_toList, Array.toList_zipIdx]
  obtain ⟨h1, h2⟩ := zip_fold off vs 0 cells.toArray (by simpa using h)
  apply Array.ext_getElem?
  intro j
  rw [h2 j]
  simp only [Nat.add_zero, List.getElem?_toArray]
  rw [setAt_get _ _ _ _ h]
theorem fill_ok {n : Nat → Bool} (place : Nat → Option (Nat × Nat)) : ∀ (parts : List (Nat × Value)) (cells l : List Value), fillL place cells parts = some l →
    (∀ x ∈ parts, bnd n x.2 = true) → (∀ v ∈ cells, bnd n v = true ∧ v.oneCell' = true) →
    Instr.fill place (cells.map r.val).toArray (parts.map fun x => (x.1, r.val x.2)) = some (l.map r.val).toArray ∧ ∀ v ∈ l, bnd n v = true ∧ v.oneCell' = true
  | [], cells, l, h, _, hc => by simp only [fillL, Option.some.injEq] at h; subst h; exact ⟨rfl, hc⟩
  | (i, v) :: rest, cells, l, h, hp, hc => by
    simp only [fillL] at h
    obtain ⟨⟨off, size⟩, hpl, h⟩ := Option.bind_eq_some_iff.1 h
    cases hb : (Nat.beq v.cells.size size && hasN (off + size) cells && oneC v.cells.toList)
    · simp only [hb, cond_false] at h; cases h
    simp only [hb, cond_true] at h
    simp only [Bool.and_eq_true] at hb
    obtain ⟨⟨hb1, hb2⟩, hb3⟩ := hb
    have hb1 := Nat.eq_of_beq_eq_true hb1
    rw [hasN_iff] at hb2
    have hv := hp (i, v) (List.mem_cons_self ..)
    have hlen : off + v.cells.toList.length ≤ cells.length := by simpa [hb1] using hb2
    obtain ⟨h1, h2⟩ := fill_ok (n := n) place rest (setAt off v.cells.toList cells) l h (fun x hx => hp x (List.mem_cons_of_mem _ hx)) (fun u hu => by
      rcases mem_setAt hlen hu with h3 | h3
      · exact ⟨bnd_of_cells hv u h3, List.all_eq_true.1 hb3 u h3⟩
      · exact hc u h3)
    refine ⟨?_, h2⟩
    simp only [List.map_cons, Instr.fill, hpl]
    have hcl : (r.val v).cells = (v.cells.toList.map r.val).toArray := by rw [val_cells]; apply Array.ext'; simp
    have hz := zip_fold_setAt off (v.cells.toList.map r.val) (cells.map r.val) (by simpa [hb1] using hb2)
    have hsm : (setAt off v.cells.toList cells).map r.val = setAt off (v.cells.toList.map r.val) (cells.map r.val) := by
      apply List.ext_getElem?
      intro j
      rw [List.getElem?_map, setAt_get _ _ _ _ hlen, setAt_get _ _ _ _ (by simpa [hb1] using hb2)]
      simp only [List.length_map, List.getElem?_map]
      split <;> rfl
    rw [hsm] at h1
    rw [if_neg (by simp [hcl, hb1]; omega), hcl]
    have : (fun (cs : Array Value) (x : Value × Nat) => match x with | (c, j) => cs.setIfInBounds (off + j) c) = fun cs x => cs.setIfInBounds (off + x.2) x.1 := rfl
    rw [this, hz]
    exact h1
theorem repl_get (z : List Value) (hz : 0 < z.length) : ∀ (n i : Nat), (repl n z)[i]? = if i < n * z.length then z[i % z.length]? else none
  | 0, i => by simp [repl]
  | n + 1, i => by
    simp only [repl]
    rw [List.getElem?_append]
    split
    · rename_i h
      rw [if_pos (by rw [Nat.add_mul]; omega), Nat.mod_eq_of_lt h]
    · rename_i h
      rw [repl_get z hz n]
      rw [Nat.add_mul, Nat.one_mul]
      by_cases h2 : i - z.length < n * z.length
      · rw [if_pos h2, if_pos (by omega)]
        rw [Nat.mod_eq_sub_mod (a := i) (by omega)]
      · rw [if_neg h2, if_neg (by omega)]
theorem repl_length (z : List Value) : ∀ n, (repl n z).length = n * z.length
  | 0 => by simp [repl]
  | n + 1 => by simp [repl, repl_length z n, Nat.add_mul, Nat.add_comm]
theorem mem_repl {z : List Value} {v : Value} : ∀ n, v ∈ repl n z → v ∈ z
  | 0, h => by simp [repl] at h
  | n + 1, h => by
    simp only [repl, List.mem_append] at h
    exact h.elim id (mem_repl n)
theorem range_repl (z : Array Value) (n : Nat) (hz : 0 < z.size) : (Array.range (n * z.size)).map (z[· % z.size]!) = (repl n z.toList).toArray := by
  apply Array.ext_getElem?
  intro i
  simp only [Array.getElem?_map, List.getElem?_toArray]
  rw [repl_get _ (by simpa using hz)]
  by_cases h : i < n * z.size
  · have hm : i % z.size < z.size := Nat.mod_lt _ hz
    simp [h, hm, Array.getElem!_eq_getD, Array.getD]
  · simp [h]
end
end Go.Proofs.Ytnnagaioiodniaa.Eng
