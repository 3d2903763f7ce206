/-
  The abstract machine: append; what asks nobody; every operation.
-/
import Derived.Test.YtnnagaioiodniaaEngH
namespace Go.Proofs.Ytnnagaioiodniaa.Eng
open Go.RowKit

section
variable {P : Program} {r : Ren} {s s' : St} {w : World}
theorem Is.heap {k : Blk} {g : Nat} {w' : World} (h : Is r k g w) (hw : w'.heap[r.b g]? = w.heap[r.b g]?) : Is r k g w' := by
  obtain ⟨arr, ty, fr, h1, h2⟩ := h
  exact ⟨arr, ty, fr, hw.trans h1, h2⟩
theorem Good.heap {w' : World} (h : Good r s w) (hw : w'.heap = w.heap) : Good r s w' :=
  ⟨fun g k hk => (h.is g k hk).heap (by rw [hw]), h.inj, h.lt, h.lo⟩
theorem Good.kill (h : Good r s w) (g : Nat) : Good r { s with h := Eng.kill s.h g } w := by
  have hl : ∀ g' k, look (Eng.kill s.h g) g' = some k → g' ≠ g ∧ look s.h g' = some k := by
    intro g' k hk
    rw [look_kill] at hk
    split at hk
    · cases hk
    · rename_i e; exact ⟨e, hk⟩
  exact ⟨fun g' k hk => h.is g' k (hl g' k hk).2, fun g1 g2 k1 k2 h1 h2 h3 => h.inj g1 g2 k1 k2 (hl _ _ h1).2 (hl _ _ h2).2 h3, fun g' k hk => h.lt g' k (hl g' k hk).2, h.lo⟩
theorem To.kill (h : Good r s w) (g : Nat) : To r s w r { s with h := Eng.kill s.h g } w :=
  ⟨Ext.refl _, fun _ h => .inl h, Nat.le_refl _, h, h.kill g, rfl, rfl, rfl, Nat.le_refl _, fun _ _ _ => rfl, fun g' k hk => by
    have hk : look (Eng.kill s.h g) g' = some k := hk
    rw [look_kill] at hk
    split at hk
    · cases hk
    · exact .inl ⟨k, hk, id⟩⟩

/-- The slice grows in its own block: the block gets a new letter. -/
theorem to_grow (hg : Good r s w) (hfr : r.d s.n = false) {g0 : Nat} {k : Blk} {p : Nat × Nat} {new : List Value} {arr arr' : Array Value} {ty : TypeId} {fr : Nat × Nat} (m : Nat) (hk : look s.h g0 = some k) (_hp : k.op = some p) (hrw : k.rw = true)
    (hnew : ∀ v ∈ new, bnd r.d v = true ∧ v.oneCell' = true) (_h1 : w.heap[r.b g0]? = some (.cells arr ty fr)) (hf : ∀ (j : Nat), j < arr.size → ¬ (fr.1 ≤ j ∧ j < fr.2)) (hs : arr'.size = arr.size)
    (hsz : arr.size = r.c p.1 * p.2) (hfit : k.cells.length + new.length ≤ arr.size) (ho : ∀ (j : Nat) (v : Value), k.cells[j]? = some v → arr[j]? = some (r.val v)) (hm : m ≤ r.c p.1)
    (hc : ∀ j : Nat, arr'[j]? = if k.cells.length ≤ j ∧ j < k.cells.length + new.length then (new.map r.val)[j - k.cells.length]? else arr[j]?) :
    To r s w (r.with s.n (r.b g0) (r.c p.1)) { newBlk { s with h := Eng.kill s.h g0 } (some (s.n, p.2)) (k.cells ++ new) with lo := (s.n, m) :: s.lo } { w with heap := w.heap.setIfInBounds (r.b g0) (.cells arr' ty fr) } := by
  have he := Ren.with_ext hfr (r.b g0) (r.c p.1)
  have hlt0 := (hg.is g0 k hk).lt
  have hfar : ∀ b', b' ≠ r.b g0 → (w.heap.setIfInBounds (r.b g0) (.cells arr' ty fr))[b']? = w.heap[b']? := fun b' hb' => Array.getElem?_setIfInBounds_ne (Ne.symm hb')
  have hlk : ∀ g k', look ((s.n, (⟨true, some (s.n, p.2), k.cells ++ new⟩ : Blk)) :: Eng.kill s.h g0) g = some k' → (g = s.n ∧ k' = ⟨true, some (s.n, p.2), k.cells ++ new⟩) ∨ (g ≠ s.n ∧ g ≠ g0 ∧ look s.h g = some k') := by
    intro g k' hk'
    rw [look_cons] at hk'
    split at hk'
    · rename_i e; exact .inl ⟨e, (Option.some.inj hk').symm⟩
    · rename_i e
      rw [look_kill] at hk'
      split at hk'
      · cases hk'
      · rename_i e'; exact .inr ⟨e, e', hk'⟩
  have hbc : ∀ v ∈ k.cells ++ new, bnd r.d v = true ∧ v.oneCell' = true := fun v hv => by
    rcases List.mem_append.1 hv with h | h
    · exact (hg.lt _ _ hk).2.2 v h
    · exact hnew v h
  refine ⟨he, fun g hg => Ren.with_dom hg, Nat.le_succ _, hg, ⟨?_, ?_, ?_, ?_⟩, rfl, rfl, rfl, by simp, ?_, ?_⟩
  · intro g k' hk'
    rcases hlk g k' hk' with ⟨rfl, rfl⟩ | ⟨hne, hne0, hk'⟩
    · refine ⟨arr', ty, fr, by rw [Ren.with_b]; simp [hlt0], ?_, ?_, fun j hj => hf j (by omega)⟩
      · simp only [Ren.with_c, List.length_append]
        exact ⟨by omega, by omega⟩
      · intro j v hj
        rw [val_ext he v (hbc v (List.mem_of_getElem? hj)).1, hc j]
        simp only [] at hj
        rw [List.getElem?_append] at hj
        split at hj
        · rw [if_neg (by omega)]; exact ho j v hj
        · have hlt := (List.getElem?_eq_some_iff.1 hj).1
          rw [if_pos (by omega), List.getElem?_map, hj]; rfl
    · exact (hg.is g k' hk').ext he (hg.lt g k' hk').1 (hg.lt g k' hk').2 (hfar _ fun e => hne0 (hg.inj _ _ _ _ hk' hk e))
  · intro g g' k1 k2 h5 h6 h7
    rcases hlk g k1 h5 with ⟨rfl, rfl⟩ | ⟨hne, hne0, h5⟩ <;> rcases hlk g' k2 h6 with ⟨rfl, rfl⟩ | ⟨hne', hne0', h6⟩
    · rfl
    · rw [Ren.with_b, he.b g' (hg.lt _ _ h6).1] at h7
      exact absurd (hg.inj _ _ _ _ h6 hk h7.symm) hne0'
    · rw [Ren.with_b, he.b g (hg.lt _ _ h5).1] at h7
      exact absurd (hg.inj _ _ _ _ h5 hk h7) hne0
    · rw [he.b g (hg.lt _ _ h5).1, he.b g' (hg.lt _ _ h6).1] at h7
      exact hg.inj _ _ _ _ h5 h6 h7
  · intro g k' hk'
    rcases hlk g k' hk' with ⟨rfl, rfl⟩ | ⟨hne, hne0, hk'⟩
    · exact ⟨Ren.with_d _ _ _ _, fun q hq => by cases hq; exact Ren.with_d _ _ _ _, fun v hv => ⟨bnd_mono he.d v (hbc v hv).1, (hbc v hv).2⟩⟩
    · exact ⟨he.d g (hg.lt g k' hk').1, (hg.lt g k' hk').2.mono he.d⟩
  · intro x hx
    rcases List.mem_cons.1 hx with rfl | hx
    · exact ⟨by rw [Ren.with_c]; exact hm, Ren.with_d _ _ _ _⟩
    · have := hg.lo x hx
      rw [he.c x.1 this.2]
      exact ⟨this.1, he.d _ this.2⟩
  · intro b hb hn
    exact hfar b fun e => hn g0 k hk hrw e.symm
  · intro g k' hk'
    rcases hlk g k' hk' with ⟨rfl, rfl⟩ | ⟨hne, hne0, hk'⟩
    · exact .inr (.inr ⟨g0, k, hk, hrw, by rw [Ren.with_b]⟩)
    · exact .inl ⟨k', hk', id⟩

theorem xappend_ok {t ty : TypeId} {ts : Array TypeId} {sl x v : Value} (ht : ts[0]? = some t) (h : xappend P s t ts.toList.tail.head? sl x = some (v, s')) (hd : bnd r.d sl = true) (hx : bnd r.d x = true) (hg : Good r s w) (hfr : Fresh r s.n s'.n) :
    s'.O = s.O ∧ Yld P r s w (Builtin.append_ ts ty #[r.val sl, r.val x]) v s' := by
  unfold xappend at h
  simp only [lenT_eq] at h
  split at h
  · rename_i base len cap
    replace h := Option.bind_eq_some_iff.1 h
    obtain ⟨elem, he, h⟩ := h
    replace h := Option.bind_eq_some_iff.1 h
    obtain ⟨size, hsz, h⟩ := h
    replace h := Option.bind_eq_some_iff.1 h
    obtain ⟨by_, hby, h⟩ := h
    replace h := Option.bind_eq_some_iff.1 h
    obtain ⟨z, hz, h⟩ := h
    replace h := Option.bind_eq_some_iff.1 h
    obtain ⟨ok, hok, h⟩ := h
    replace h := Option.bind_eq_some_iff.1 h
    obtain ⟨n, hn, h⟩ := h
    replace h := Option.bind_eq_some_iff.1 h
    obtain ⟨new, hnew, h⟩ := h
    generalize hcond : (ok && Nat.beq new.length (n * size) && oneC new && Nat.ble ((len + n) * by_) 1099511627776 && Nat.blt (len + n) 4611686018427387904 && Nat.beq z.cells.size size && Nat.blt 0 size) = cond at h
    cases cond
    · cases h
    simp only [cond_true] at h
    simp only [Bool.and_eq_true, Nat.ble_eq, Nat.blt_eq] at hcond
    obtain ⟨⟨⟨⟨⟨⟨c1, c2⟩, c3⟩, c4⟩, c5⟩, c6⟩, c7⟩ := hcond
    subst c1
    have c2 := Nat.eq_of_beq_eq_true c2
    have c6 := Nat.eq_of_beq_eq_true c6
    obtain ⟨hzv, hzf, _⟩ := zeroP_ok hz
    have hsl := sliceElem_ok he
    have hnz : noZeros P ts := by
      unfold noZeros
      have htl : ts.toList.tail.head? = ts[1]? := by
        rw [← Array.getElem?_toList]
        rcases ts with ⟨l⟩
        rcases l with _ | ⟨a, _ | ⟨b, l⟩⟩ <;> rfl
      rw [htl] at hok
      cases h1 : ts[1]? with
      | none => exact .inl rfl
      | some t1 =>
        rw [h1] at hok
        simp only [] at hok
        obtain ⟨d, hd1, hd2⟩ := Option.map_eq_some_iff.1 hok
        refine .inr ⟨t1, d, rfl, hd1, fun k e => ?_⟩
        subst e
        cases hd2
    obtain ⟨f1, f2⟩ := xfirst_ok (P := P) hnew hg hx
    have hnl : (new.map r.val).toArray.toList = new.map r.val := rfl
    rw [bnd_slice, Bool.and_eq_true] at hd
    obtain ⟨hda, hdc⟩ := hd
    have grow : ∀ (s0 : St) (old : List Value) (esc : Nat), r.d s.n = false → Good r s0 w → s0.n = s.n → s0.O = s.O → s0.lo = s.lo → old.length = len * size → (∀ v ∈ old, bnd r.d v = true ∧ v.oneCell' = true) → To r s w r s0 w →
        (∀ w', w'.heap = w.heap → (Builtin.firstCells size len (.slice (base.map r.addr) len (r.cap cap))).run P w' = .ok (old.map r.val).toArray w') → ¬ len + n ≤ r.cap cap →
        Yld P r s w (Builtin.append_ ts ty #[r.val (.slice base len cap), r.val x]) (.slice (some ⟨s.n, 0, none⟩) (len + n) (big + s.n)) { newBlk s0 (some (s.n, size)) (old ++ new) with lo := (s.n, len + n) :: s.lo, esc := esc } := by
      intro s0 old esc hfr0 hg0 hn0 _ hlo0 hol hob hto hold hnot
      have hrun := run_append_out (ty := ty) (w := w) ht hnz hsl hsz hby hzv (xlen_ok (r := r) hn) (fun w' hw' => (xfirst_ok (P := P) hnew (hg.heap hw') hx).1) hold hnot c5 c4
      have hge := grownCap_ge w (len + n) (r.cap cap) elem
      have hasz : ((old.map r.val).toArray ++ (new.map r.val).toArray ++ Builtin.zeroCells z.cells (grownCap w (len + n) (r.cap cap) elem - (len + n))).size = grownCap w (len + n) (r.cap cap) elem * size := by
        simp only [Array.size_append, List.size_toArray, List.length_map, size_zeroCells, c6, hol, c2, ← Nat.add_mul]
        congr 1; omega
      have hnew2 := to_new hg0 (by rw [hn0]; exact hfr0) (some (s.n, size)) (old ++ new) ((old.map r.val).toArray ++ (new.map r.val).toArray ++ Builtin.zeroCells z.cells (grownCap w (len + n) (r.cap cap) elem - (len + n))) elem (0, 0)
        (grownCap w (len + n) (r.cap cap) elem) (w.drawn + 1) ((s.n, len + n) :: s.lo) (.inr ⟨len + n, by rw [hn0, hlo0], hge⟩) (fun v hv => by
          rcases List.mem_append.1 hv with h | h
          · exact hob v h
          · exact f2 v h) (.inr ⟨size, by rw [hn0], hasz, by
            rw [hasz, List.length_append, hol, c2, ← Nat.add_mul]; exact Nat.mul_le_mul_right _ hge⟩) (fun j v hj => by
          have hlt := (List.getElem?_eq_some_iff.1 hj).1
          have e : (old.map r.val).toArray ++ (new.map r.val).toArray = ((old ++ new).map r.val).toArray := by simp
          rw [e, Array.getElem?_append_left (by simpa using hlt), List.getElem?_toArray, List.getElem?_map, hj]; rfl) (fun j _ hc => by simp at hc) esc
      refine ⟨_, _, ?_, hto.trans (hn0 ▸ hnew2), bnd_slice_open (Ren.with_d _ _ _ _)⟩
      rw [val_slice (r := r), hrun, val_slice_open]
    cases hb : Nat.blt cap big
    · rw [hb] at h
      simp only [cond_false] at h
      cases base with
      | none => cases h
      | some a =>
        simp only [] at h
        cases hs : a.spot with
        | some _ => rw [hs] at h; cases h
        | none =>
          rw [hs] at h
          simp only [] at h
          replace h := Option.bind_eq_some_iff.1 h
          obtain ⟨k, hk, h⟩ := h
          cases hop : k.op with
          | none => rw [hop] at h; cases h
          | some p =>
            rw [hop] at h
            simp only [] at h
            cases hc : (k.rw && Nat.beq a.off 0 && Nat.beq (big + p.1) cap && Nat.beq p.2 size && Nat.beq k.cells.length (len * size))
            · rw [hc] at h; cases h
            rw [hc] at h
            simp only [cond_true, Option.some.injEq, Prod.mk.injEq] at h
            obtain ⟨rfl, rfl⟩ := h
            simp only [Bool.and_eq_true] at hc
            obtain ⟨⟨⟨⟨k1, k2⟩, k3⟩, k4⟩, k5⟩ := hc
            have k2 := Nat.eq_of_beq_eq_true k2
            have k3 := Nat.eq_of_beq_eq_true k3
            have k4 := Nat.eq_of_beq_eq_true k4
            have k5 := Nat.eq_of_beq_eq_true k5
            have hcapv : r.cap cap = r.c p.1 := by rw [← k3, cap_letter]
            have haddr : r.addr a = ⟨r.b a.block, 0, none⟩ := by rw [addr_plain r a hs, k2]
            obtain ⟨arr, ty', fr, g1, g2, g3, g4⟩ := hg.is _ _ hk
            rw [hop] at g2
            simp only [] at g2
            have hob := (hg.lt _ _ hk).2.2
            refine ⟨rfl, ?_⟩
            by_cases hin : len + n ≤ r.cap cap
            · have hfit : k.cells.length + new.length ≤ arr.size := by
                rw [g2.1, k5, c2, ← Nat.add_mul, k4, ← hcapv]; exact Nat.mul_le_mul_right _ hin
              obtain ⟨arr', e1, e2, e3⟩ := run_storeCells_blk P (r.b a.block) (len * size) ty' fr (new.map r.val) 0 arr w g1 (by simp only [List.length_map, Nat.add_zero]; omega) (fun u hu => by
                obtain ⟨u', hu', rfl⟩ := List.mem_map.1 hu
                rw [val_oneCell]; exact (f2 u' hu').2) g4
              have hgrow := to_grow hg (hfr s.n (Nat.le_refl _) (Nat.lt_succ_self _)) (arr' := arr') (new := new) (len + n) hk hop k1 f2 g1 g4 e2 g2.1 hfit g3 (by rw [← hcapv]; exact hin) (fun j => by
                rw [e3 j, k5]; simp only [Nat.add_zero, List.length_map])
              rw [k4] at hgrow
              refine ⟨_, _, ?_, hgrow, bnd_slice_open (Ren.with_d _ _ _ _)⟩
              have hrun := run_append_in (P := P) (ty := ty) (base := some (r.addr a)) (w := w) ht hnz hsl hsz (xlen_ok (r := r) hn) f1 hin (w' := { w with heap := w.heap.setIfInBounds (r.b a.block) (.cells arr' ty' fr) }) (by
                simp only [haddr, add_plain, Nat.zero_add]
                exact e1)
              rw [val_slice (r := r), Option.map_some, hrun, val_slice_open, haddr, hcapv]
            · have hold : ∀ w', w'.heap = w.heap → (Builtin.firstCells size len (.slice ((some a).map r.addr) len (r.cap cap))).run P w' = .ok (k.cells.map r.val).toArray w' := by
                intro w' hw'
                have hg' := hg.heap hw'
                have hrd : rdCells s a (len * size) = some k.cells := by
                  unfold rdCells
                  rw [hs]
                  simp only [hk, Option.bind_some, k2, Nat.zero_add]
                  rw [(hasN_iff _ _).2 (by omega)]
                  simp [← k5]
                have := (rdCells_ok (P := P) hrd hg').1
                simp only [Option.map_some]
                exact this
              have := grow { s with h := Eng.kill s.h a.block } k.cells s.esc (hfr s.n (Nat.le_refl _) (Nat.lt_succ_self _)) (hg.kill _) rfl rfl rfl k5 hob (To.kill hg _) hold hin
              exact this
    · rw [hb] at h
      simp only [cond_true] at h
      have hcs := cap_small (r := r) (big_blt.1 hb)
      cases hle : Nat.ble (len + n) cap
      · rw [hle] at h
        simp only [cond_false] at h
        replace h := Option.bind_eq_some_iff.1 h
        obtain ⟨old, hold, h⟩ := h
        cases hol : Nat.beq old.length (len * size)
        · rw [hol] at h; cases h
        rw [hol] at h
        simp only [cond_true, Option.some.injEq, Prod.mk.injEq] at h
        obtain ⟨rfl, rfl⟩ := h
        have hbs : bnd r.d (.slice base len cap) = true := by rw [bnd_slice, Bool.and_eq_true]; exact ⟨hda, hdc⟩
        have ho2 := (xfirst_ok (P := P) hold hg hbs).2
        have hnot : ¬ len + n ≤ r.cap cap := by
          rw [hcs]; intro hc; rw [(Nat.ble_eq).mpr hc] at hle; cases hle
        have := grow s old s.esc (hfr s.n (Nat.le_refl _) (Nat.lt_succ_self _)) hg rfl rfl rfl (Nat.eq_of_beq_eq_true hol) ho2 (To.refl hg) (fun w' hw' => by
          have := (xfirst_ok (P := P) hold (hg.heap hw') hbs).1
          rw [val_slice] at this
          exact this) hnot
        exact ⟨rfl, this⟩
      · rw [hle] at h
        simp only [cond_true] at h
        have hle' : len + n ≤ r.cap cap := by rw [hcs]; exact Nat.le_of_ble_eq_true hle
        have same : new = [] → v = .slice base (len + n) cap → s' = s → s'.O = s.O ∧ Yld P r s w (Builtin.append_ ts ty #[r.val (.slice base len cap), r.val x]) v s' := by
          rintro rfl rfl rfl
          refine ⟨rfl, Yld.same hg ?_ (by rw [bnd_slice, Bool.and_eq_true]; exact ⟨hda, hdc⟩)⟩
          rw [val_slice, val_slice]
          exact run_append_in ht hnz hsl hsz (xlen_ok (r := r) hn) f1 hle' (by cases base <;> rfl)
        cases base with
        | none =>
          simp only [] at h
          cases hn0 : Nat.beq n 0
          · rw [hn0] at h; cases h
          · rw [hn0] at h
            simp only [cond_true, Option.some.injEq, Prod.mk.injEq] at h
            have := Nat.eq_of_beq_eq_true hn0
            subst this
            exact same (List.eq_nil_of_length_eq_zero (by omega)) h.1.symm h.2.symm
        | some a =>
          simp only [] at h
          cases hn0 : Nat.beq n 0
          · rw [hn0] at h
            simp only [cond_false] at h
            cases hsa : a.spot with
            | some _ => rw [hsa] at h; cases h
            | none =>
            rw [hsa] at h
            simp only [] at h
            replace h := Option.map_eq_some_iff.1 h
            obtain ⟨s1, hs1, h⟩ := h
            simp only [Prod.mk.injEq] at h
            obtain ⟨rfl, rfl⟩ := h
            obtain ⟨hsp, hO, w', hw, hto⟩ := wrCells_ok (P := P) hs1 hg fun v hv => (f2 v hv).1
            refine ⟨hO, r, w', ?_, hto, by rw [bnd_slice, Bool.and_eq_true]; exact ⟨hda, hdc⟩⟩
            rw [val_slice, val_slice, Option.map_some]
            refine run_append_in ht hnz hsl hsz (xlen_ok (r := r) hn) f1 hle' ?_
            simp only []
            rw [addr_add r a _ hsa] at hw
            exact hw
          · rw [hn0] at h
            simp only [cond_true, Option.some.injEq, Prod.mk.injEq] at h
            have := Nat.eq_of_beq_eq_true hn0
            subst this
            exact same (List.eq_nil_of_length_eq_zero (by omega)) h.1.symm h.2.symm
  · cases h
end
end Go.Proofs.Ytnnagaioiodniaa.Eng
