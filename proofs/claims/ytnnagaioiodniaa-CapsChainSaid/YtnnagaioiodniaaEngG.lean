/-
  The abstract machine: slices, conversions, strings, append, copy (second part).
-/
import Derived.Test.YtnnagaioiodniaaEngF
namespace Go.Proofs.Ytnnagaioiodniaa.Eng
open Go.RowKit

section
variable {P : Program} {r : Ren} {s s' : St} {w : World}

theorem xsliceA_ok {a : Addr} {n size : Nat} {lo hi mx : Option Value} {v : Value} (b : Bool) (h : xsliceA s a n size lo hi mx = some (v, s')) (hx : bndA r.d a = true) (hg : Good r s w) (hfr : Fresh r s.n s'.n) (hO : s'.O) :
    s.O ∧ ∃ r' l h m, (Instr.sliceBounds b n n (lo.map r.val) (hi.map r.val) (mx.map r.val)).run P w = .ok (l, h, m) w ∧ To r s w r' s' w ∧ bnd r'.d v = true ∧
      r'.val v = .slice (some (if m = l then r.addr a else (r.addr a).add (l * size))) (h - l) (m - l) := by
  unfold xsliceA at h
  split at h
  · cases h
  cases hb : Nat.blt n big
  · rw [hb] at h; cases h
  rw [hb] at h
  simp only [cond_true] at h
  have hn := big_blt.1 hb
  obtain ⟨h1, r', l, hh, m, h2, h3, h4, h5⟩ := xsliceS_ok (P := P) b h (by rw [bnd_slice, hb]; simp [hx]) hg hfr hO
  rw [cap_small hn] at h2
  refine ⟨h1, r', l, hh, m, h2, h3, h4, ?_⟩
  rw [h5]
  split <;> simp
theorem xslice_ok {t : TypeId} {x v : Value} {lo hi mx : Option Value} (h : xslice P s t x lo hi mx = some (v, s')) (hx : bnd r.d x = true) (hg : Good r s w) (hfr : Fresh r s.n s'.n) (hO : s'.O) :
    s.O ∧ Yld P r s w (Instr.sliceAt t (r.val x) (lo.map r.val) (hi.map r.val) (mx.map r.val)) v s' := by
  unfold xslice at h
  obtain ⟨d, hd, h⟩ := Option.bind_eq_some_iff.1 h
  split at h
  · rename_i n elem a _
    obtain ⟨size, hsz, h⟩ := Option.bind_eq_some_iff.1 h
    rw [bnd_ptr] at hx
    obtain ⟨h1, r', l, hh, m, h2, h3, h4, h5⟩ := xsliceA_ok (P := P) false h hx hg hfr hO
    refine ⟨h1, r', w, ?_, h3, h4⟩
    rw [h5, val_ptr, Option.map_some]
    simp only [Instr.sliceAt, Instr.sureAddr, Sem.run_bind, run_underlying hd, Result.andThen_ok, Sem.run_pure, h2, run_sizeP hsz]
  · rename_i b _
    split at h
    · unfold xsliceStr at h
      simp only [lenT_eq] at h
      obtain ⟨⟨hh, s1⟩, e1, h⟩ := Option.bind_eq_some_iff.1 h
      simp only [] at h
      obtain ⟨⟨l, s2⟩, e2, h⟩ := Option.bind_eq_some_iff.1 h
      simp only [Option.some.injEq, Prod.mk.injEq] at h
      obtain ⟨rfl, rfl⟩ := h
      obtain ⟨b2, c2⟩ := bound1_ok e2 hO
      obtain ⟨b1, c1⟩ := bound1_ok e1 (b2.2.2.2 hO)
      have hsb := b1.trans b2
      have hsize : b.size = b.data.toList.length := by rw [Array.length_toList]; rfl
      have hr := run_bounds0 (P := P) (b := false) (len := b.size) (cap := b.size) (lo := lo.map r.val) (hi := hi.map r.val) (h := hh) (l := l) w (by
          rcases c1 with ⟨rfl, rfl⟩ | ⟨k, i, e, h0, h1, rfl⟩
          · exact .inl ⟨rfl, hsize.symm⟩
          · exact .inr ⟨k, i, map_ints e, h0, by rw [hsize]; exact h1, rfl⟩) (by
          rcases c2 with ⟨rfl, rfl⟩ | ⟨k, i, e, h0, h1, rfl⟩
          · exact .inl ⟨rfl, rfl⟩
          · exact .inr ⟨k, i, map_ints e, h0, h1, rfl⟩)
      refine ⟨hsb.2.2.2 hO, r, w, ?_, hsb.to hg, bnd_string _ _⟩
      have hex : b.extract l hh = ⟨⟨(b.data.toList.drop l).take (hh - l)⟩⟩ := by
        have := ByteArray.extract_mk b.data.toList l hh
        simpa using this
      rw [val_string, val_string]
      simp only [Instr.sliceAt, Instr.slice, Sem.run_bind, run_underlying hd, Result.andThen_ok, Sem.run_pure, Option.map_none, Option.isSome_none, Bool.false_eq_true, if_false, hr, hex]
    · cases h
  · rename_i elem a len cap _
    obtain ⟨size, hsz, h⟩ := Option.bind_eq_some_iff.1 h
    obtain ⟨h1, r', l, hh, m, h2, h3, h4, h5⟩ := xsliceS_ok (P := P) true h hx hg hfr hO
    refine ⟨h1, r', w, ?_, h3, h4⟩
    rw [h5, val_slice]
    simp only [Instr.sliceAt, Instr.slice, Sem.run_bind, run_underlying hd, Result.andThen_ok, Sem.run_pure, h2, run_sizeP hsz]
  · rename_i arr a _
    obtain ⟨d2, hd2, h⟩ := Option.bind_eq_some_iff.1 h
    split at h
    · rename_i n elem
      obtain ⟨size, hsz, h⟩ := Option.bind_eq_some_iff.1 h
      rw [bnd_ptr] at hx
      obtain ⟨h1, r', l, hh, m, h2, h3, h4, h5⟩ := xsliceA_ok (P := P) false h hx hg hfr hO
      refine ⟨h1, r', w, ?_, h3, h4⟩
      rw [h5, val_ptr, Option.map_some]
      simp only [Instr.sliceAt, Instr.slice, asAddr, Sem.run_bind, run_underlying hd, run_underlying hd2, Result.andThen_ok, Sem.run_pure, h2, run_sizeP hsz]
    · cases h
  · cases h

theorem xmakeSlice_ok {t : TypeId} {l c v : Value} (h : xmakeSlice P s t l c = some (v, s')) (hg : Good r s w) (hfr : Fresh r s.n s'.n) (hO : s'.O) :
    s.O ∧ Yld P r s w (Instr.makeSlice t (r.val l) (r.val c)) v s' := by
  unfold xmakeSlice at h
  split at h
  · rename_i kl l kc c
    obtain ⟨elem, he, h⟩ := Option.bind_eq_some_iff.1 h
    obtain ⟨n, hn, h⟩ := Option.bind_eq_some_iff.1 h
    obtain ⟨by_, hby, h⟩ := Option.bind_eq_some_iff.1 h
    obtain ⟨z, hz, h⟩ := Option.bind_eq_some_iff.1 h
    obtain ⟨h1, h2, _⟩ := zeroP_ok hz
    generalize hT : (decide (0 ≤ l) && decide (l ≤ c) && decide (by_ * c ≤ 140737488355328) && decide (c < 9223372036854775808)) = T at h
    cases hb : ((ask T s).1 && Nat.beq z.cells.size n && Nat.blt 0 n)
    · rw [hb] at h; cases h
    rw [hb] at h
    simp only [cond_true, Option.some.injEq, Prod.mk.injEq] at h
    obtain ⟨rfl, rfl⟩ := h
    have hO' : (ask T s).2.O := hO
    simp only [Bool.and_eq_true, Nat.blt_eq] at hb
    obtain ⟨⟨hb1, hb2⟩, hb3⟩ := hb
    rw [ask_eq _ _ hO', ← hT] at hb1
    simp only [Bool.and_eq_true, decide_eq_true_eq] at hb1
    obtain ⟨⟨⟨g1, g2⟩, g3⟩, g4⟩ := hb1
    have hb2 := Nat.eq_of_beq_eq_true hb2
    subst hb2
    have hgt := SameBut.good (.ask T s) hg
    have hrc : ∀ v ∈ repl c.toNat z.cells.toList, flat0 v = true := fun v hv => h2 v (mem_repl _ hv)
    have hcb : c.toNat < big := by unfold big; omega
    have hfr1 : r.d (ask T s).2.n = false := hfr _ (by rw [ask_n]; exact Nat.le_refl _) (Nat.lt_succ_self _)
    have hnew := to_new0 hgt hfr1 (repl c.toNat z.cells.toList) elem fun v hv => ⟨bnd_flat0 _ (hrc v hv), flat0_oneCell (hrc v hv)⟩
    refine ⟨ask_ob _ _ hO', _, _, ?_, (To.ask hg T).trans hnew, ?_⟩
    · have hv := val_slice_new r s.n w.heap.size 0 l.toNat c.toNat hcb
      rw [ask_n, hv, map_flat0 r (List.all_eq_true.2 hrc), ← range_repl z.cells _ hb3]
      obtain ⟨i, hi, rfl⟩ := Option.map_eq_some_iff.1 hby
      have hwl : IntKind.i64.wrap l = l := IntWalk.i64_in _ (by omega)
      have hwc : IntKind.i64.wrap c = c := IntWalk.i64_in _ (by omega)
      have hc1 : decide (c < 0) = false := by simp; omega
      have hc2 : decide ((i.bytes : Int) * c > 2 ^ 48) = false := by simp; omega
      have hc3 : decide (l < 0) = false := by simp; omega
      have hc4 : decide (l > c) = false := by simp; omega
      simp only [val_int, Instr.makeSlice, asInt, asIntOf, Sem.run_bind, run_underlying (sliceElem_ok he), Result.andThen_ok, Sem.run_pure, run_typeInfo hi, hwl, hwc, hc1, hc2, hc3, hc4,
        Bool.or_self, Bool.false_eq_true, if_false, run_askRoom, run_sizeP hn]
      by_cases h0 : c.toNat * z.cells.size = 0
      · have hc0 : c.toNat = 0 := by rcases Nat.mul_eq_zero.1 h0 with h | h <;> omega
        have e0 : ∀ (g : Nat → Value), (Array.range (c.toNat * z.cells.size)).map g = #[] := fun g => by rw [h0]; simp
        simp only [if_pos h0, e0, Sem.run_pure, Result.andThen_ok, newRow, Sem.run_bind, run_newObj]
      · simp only [if_neg h0, Sem.run_bind, h1, Sem.run_pure, Result.andThen_ok, newRow, run_newObj]
    · exact bnd_slice_new hcb (by have := Ren.with_d r (ask T s).2.n w.heap.size 0; rw [ask_n] at this ⊢; exact this)
  · cases h

theorem xtoBytes_ok {src dst e : TypeId} {b : ByteArray} {v : Value} (h : xtoBytes s b = some (v, s')) (hs : P.underlying src = some .string) (hd : P.underlying dst = some (.slice e)) (he : P.underlying e = some (.int .u8)) (hg : Good r s w) (hfr : Fresh r s.n s'.n) :
    s'.O = s.O ∧ Yld P r s w (convert src dst (.string b)) v s' := by
  unfold xtoBytes at h
  simp only [lenT_eq] at h
  simp only [Option.some.injEq, Prod.mk.injEq] at h
  obtain ⟨rfl, rfl⟩ := h
  have hsize : b.size = b.data.toList.length := by rw [Array.length_toList]; rfl
  have hge := grownCap_ge w b.size 0 e
  have hrow : (bytesRow b (grownCap w b.size 0 e)).size = grownCap w b.size 0 e := by
    simp only [bytesRow, Array.size_append, Array.size_map, Array.size_replicate]
    have : b.data.size = b.size := rfl
    omega
  have hnew := to_new hg (hfr s.n (Nat.le_refl _) (Nat.lt_succ_self _)) (some (s.n, 1)) (b.data.toList.map fun c => .int .u8 (c.toNat : Nat)) (bytesRow b (grownCap w b.size 0 e)) e
    ((bytesRow b (grownCap w b.size 0 e)).size, (bytesRow b (grownCap w b.size 0 e)).size + 1) (grownCap w b.size 0 e) w.drew.drawn
    ((s.n, b.data.toList.length) :: s.lo) (.inr ⟨_, rfl, by omega⟩) (fun v hv => by
      obtain ⟨c, _, rfl⟩ := List.mem_map.1 hv
      exact ⟨bnd_int _ _ _, rfl⟩) (.inr ⟨1, rfl, by omega, by rw [hrow, List.length_map]; omega⟩) (fun j v hj => by
      rw [List.getElem?_map, Option.map_eq_some_iff] at hj
      obtain ⟨c, hc, rfl⟩ := hj
      rw [val_int]
      have hlt : j < b.data.size := by
        have := (List.getElem?_eq_some_iff.1 hc).1
        simpa using this
      rw [bytesRow, Array.getElem?_append_left (by simpa using hlt), Array.getElem?_map]
      rw [Array.getElem?_toList] at hc
      rw [hc]; rfl) (fun j hj hc => by omega) s.esc
  refine ⟨rfl, _, _, ?_, hnew, bnd_slice_open (Ren.with_d _ _ _ _)⟩
  rw [run_bytes_of_string w src dst e b hs hd he, val_slice_open, hsize]
  rfl
theorem toBytes_ok {l : List Value} {x : List UInt8} (h : toBytes l = some x) : ∃ ns : List Int, l = ns.map (Value.int .u8) ∧ x = ns.map fun n => UInt8.ofNat n.toNat := by
  unfold toBytes at h
  cases hc : l.all isU8
  · rw [hc] at h; cases h
  rw [hc] at h
  simp only [cond_true, Option.some.injEq] at h
  subst h
  induction l with
  | nil => exact ⟨[], rfl, rfl⟩
  | cons v l ih =>
    simp only [List.all_cons, Bool.and_eq_true] at hc
    obtain ⟨ns, h1, h2⟩ := ih hc.2
    cases v with
    | int k n =>
      cases k <;> simp only [isU8, Bool.false_eq_true, false_and] at hc
      refine ⟨n :: ns, by rw [h1]; rfl, ?_⟩
      rw [List.map_cons, h2]
      rfl
    | _ => simp [isU8] at hc
theorem foldl_push (ns : List Int) : ∀ (b : ByteArray), ns.foldl (fun r n => r.push (UInt8.ofNat n.toNat)) b = ⟨⟨b.data.toList ++ ns.map fun n => UInt8.ofNat n.toNat⟩⟩ := by
  induction ns with
  | nil => intro b; simp
  | cons n ns ih =>
    intro b
    rw [List.foldl_cons, ih]
    simp [ByteArray.push]
theorem xtoString_ok {src dst e : TypeId} {x v : Value} (h : xtoString s x = some (v, s')) (hs : P.underlying src = some (.slice e)) (he : P.underlying e = some (.int .u8)) (hd : P.underlying dst = some .string) (hg : Good r s w) :
    s' = s ∧ Yld P r s w (convert src dst (r.val x)) v s' := by
  unfold xtoString at h
  split at h
  · simp only [Option.some.injEq, Prod.mk.injEq] at h
    obtain ⟨rfl, rfl⟩ := h
    refine ⟨rfl, Yld.same hg ?_ (bnd_string _ _)⟩
    rw [val_slice, val_string, Option.map_none, run_convert_bytes_string w src dst e none _ _ hs he hd]
    rfl
  · rename_i a len cap
    have : ∃ l x, (bif Nat.beq len 0 then some [] else rdCells s a len) = some l ∧ toBytes l = some x ∧ v = .string ⟨⟨x⟩⟩ ∧ s' = s := by
      cases hb : Nat.beq len 0
      · rw [hb] at h
        simp only [cond_false] at h
        obtain ⟨l, hl, h⟩ := Option.bind_eq_some_iff.1 h
        obtain ⟨x, hx, h⟩ := Option.map_eq_some_iff.1 h
        simp only [Prod.mk.injEq] at h
        exact ⟨l, x, hl, hx, h.1.symm, h.2.symm⟩
      · rw [hb] at h
        simp only [cond_true, Option.some.injEq, Prod.mk.injEq] at h
        exact ⟨[], [], rfl, rfl, h.1.symm, h.2.symm⟩
    obtain ⟨l, x, hl, hx, rfl, rfl⟩ := this
    obtain ⟨ns, rfl, rfl⟩ := toBytes_ok hx
    have hrun : (loadCells (r.addr a) len).run P w = .ok (ns.map (Value.int .u8)).toArray w := by
      cases hb : Nat.beq len 0
      · rw [hb] at hl
        simp only [cond_false] at hl
        obtain ⟨h1, _⟩ := rdCells_ok (P := P) hl hg
        rw [h1, List.map_map]
        congr 2
        apply List.map_congr_left
        intro n _
        simp [val_int]
      · rw [hb] at hl
        simp only [cond_true, Option.some.injEq] at hl
        rw [Nat.eq_of_beq_eq_true hb, ← hl]
        rfl
    refine ⟨rfl, Yld.same hg ?_ (bnd_string _ _)⟩
    rw [val_slice, val_string, Option.map_some, run_convert_bytes_string w src dst e _ _ _ hs he hd, run_bytesToString w _ _ _ ns hrun, foldl_push]
    rfl
  · cases h
end
end Go.Proofs.Ytnnagaioiodniaa.Eng
