/-
  The abstract machine: a region that draws its order. What a history keeps.
-/
import Derived.Test.YtnnagaioiodniaaEngP
namespace Go.Proofs.Ytnnagaioiodniaa.Eng
open Go.RowKit

section
variable {b : Nat} {recs : List Rec} {e : Env} {s s' : St} {o : Oper} {g : Nat} {k : Blk}
theorem stIn_n (b : Nat) (recs : List Rec) (e : Env) (s : St) (o : Oper) : (stIn b recs e s o).n = s.n := by unfold stIn; cases freeOp o <;> rfl
theorem stIn_O (b : Nat) (recs : List Rec) (e : Env) (s : St) (o : Oper) : (stIn b recs e s o).O = s.O := by unfold stIn; cases freeOp o <;> rfl
theorem stIn_look (h : look (stIn b recs e s o).h g = some k) :
    hidden b recs g = false ∧ (freeOp o = true → g ∈ readsOf e o ∧ k.rw = false) ∧ ∃ k', look s.h g = some k' ∧ k.op = k'.op ∧ k.cells = k'.cells ∧ (k.rw = true → k'.rw = true ∧ locked b recs g = false) := by
  unfold stIn at h
  cases hf : freeOp o
  · rw [hf] at h
    simp only [cond_false] at h
    rw [look_map_lock, look_filter (fun x => !hidden b recs x)] at h
    obtain ⟨k', hk', rfl⟩ := Option.map_eq_some_iff.1 h
    split at hk'
    · rename_i hh
      refine ⟨by simpa using hh, (fun hc => by cases hc), k', hk', ?_⟩
      cases locked b recs g <;> simp
    · cases hk'
  · rw [hf] at h
    simp only [cond_true] at h
    obtain ⟨h1, h2, k', h3, rfl⟩ := look_seen _ _ _ _ _ _ h
    exact ⟨h2, fun _ => ⟨h1, rfl⟩, k', h3, rfl, rfl, (fun hc => by cases hc)⟩
theorem stIn_lo {x : Nat × Nat} (h : x ∈ (stIn b recs e s o).lo) : x ∈ s.lo ∧ hidden b recs x.1 = false := by
  unfold stIn at h
  cases hf : freeOp o <;> rw [hf] at h <;> simp only [cond_false, cond_true, List.mem_filter, Bool.not_eq_true'] at h <;> exact h
theorem stIn_wf (h : WFn s) : WFn (stIn b recs e s o) :=
  ⟨fun g k hk => by obtain ⟨_, _, k', h1, _⟩ := stIn_look hk; rw [stIn_n]; exact h.1 g k' h1, fun x hx => by rw [stIn_n]; exact h.2 x (stIn_lo hx).1⟩
theorem stOut_n (b : Nat) (recs : List Rec) (s : St) (o : Oper) (s' : St) : (stOut b recs s o s').n = s'.n := by unfold stOut; cases freeOp o <;> rfl
theorem stOut_O (b : Nat) (recs : List Rec) (s : St) (o : Oper) (s' : St) : (stOut b recs s o s').O = s'.O := by unfold stOut; cases freeOp o <;> rfl
theorem look_none (hw : WFn s) (hg : s.n ≤ g) : look s.h g = none := by
  cases hl : look s.h g with
  | none => rfl
  | some k => have := hw.1 g k hl; omega
theorem stOut_new (hw : WFn s) (hg : s.n ≤ g) : look (stOut b recs s o s').h g = look s'.h g := by
  have hble : Nat.ble s.n g = true := Nat.ble_eq_true_of_le hg
  unfold stOut
  cases hf : freeOp o
  · simp only [cond_false]
    rw [look_append, look_filter (fun x => Nat.ble s.n x || !(hidden b recs x || locked b recs x)), look_filter (fun x => hidden b recs x || locked b recs x), look_none hw hg]
    simp [hble]
  · simp only [cond_true]
    rw [look_append, look_filter (fun x => Nat.ble s.n x), look_none hw hg]
    simp [hble]
theorem stOut_old (hg : g < s.n) : look (stOut b recs s o s').h g = if freeOp o = true ∨ hidden b recs g = true ∨ locked b recs g = true then look s.h g else look s'.h g := by
  have hble : Nat.ble s.n g = false := by
    cases h : Nat.ble s.n g
    · rfl
    · have := Nat.le_of_ble_eq_true h; omega
  unfold stOut
  cases hf : freeOp o
  · simp only [cond_false]
    rw [look_append, look_filter (fun x => Nat.ble s.n x || !(hidden b recs x || locked b recs x)), look_filter (fun x => hidden b recs x || locked b recs x)]
    cases h1 : hidden b recs g <;> cases h2 : locked b recs g <;> simp [hble]
  · simp only [cond_true]
    rw [look_append, look_filter (fun x => Nat.ble s.n x)]
    simp [hble]
theorem stOut_lo {x : Nat × Nat} : x ∈ (stOut b recs s o s').lo ↔ (x ∈ s'.lo ∧ s.n ≤ x.1) ∨ x ∈ s.lo := by
  unfold stOut
  cases freeOp o <;> simp only [cond_false, cond_true, List.mem_append, List.mem_filter, Nat.ble_eq]
theorem stOut_wf (hw : WFn s) (hw' : WFn s') (hn : s.n ≤ s'.n) : WFn (stOut b recs s o s') := by
  refine ⟨fun g k hk => ?_, fun x hx => ?_⟩
  · rw [stOut_n]
    rcases Nat.lt_or_ge g s.n with hg | hg
    · omega
    · rw [stOut_new hw hg] at hk; exact hw'.1 g k hk
  · rw [stOut_n]
    rcases stOut_lo.1 hx with h | h
    · exact hw'.2 x h.1
    · have := hw.2 x h; omega
end

section
variable {P : Program} {call : CallK} {nt : Nat} {ops : Array Oper} {B : List Nat} {f0 : Fr}
abbrev MonoCall (call : CallK) : Prop := ∀ f args s v s', call f args s = some (v, s') → Mono s s'
theorem hist_n (hc : MonoCall call) (hw : WFn f0.s) : ∀ (H : List Step) (f : Fr), Hist P call nt ops B f0 H f → WFn f.s ∧ f0.s.n ≤ f.s.n ∧ (f.s.O → f0.s.O) ∧
    ∀ x ∈ H, f0.s.n ≤ x.sin.n ∧ x.sin.n ≤ x.sout.n ∧ x.sout.n ≤ f.s.n ∧ (f.s.O → x.sout.O) ∧ WFn x.sin ∧ WFn x.sout
  | [], f, h => by
    simp only [Hist] at h
    subst h
    exact ⟨hw, Nat.le_refl _, id, fun x hx => by cases hx⟩
  | x :: H, f, h => by
    obtain ⟨fp, h1, h2, h3, h4, h5, h6, _⟩ := h
    obtain ⟨w1, w2, w3, w4⟩ := hist_n hc hw H fp h1
    have hm := mono_guarded hc h4
    have win : WFn x.sin := by rw [h3]; exact stIn_wf w1
    have hn : x.sin.n = fp.s.n := by rw [h3, stIn_n]
    have hfn : f.s.n = x.sout.n := by rw [h6, stOut_n]
    have hfO : f.s.O = x.sout.O := by rw [h6, stOut_O]
    have hO : f.s.O → fp.s.O := fun hO => by
      have := hm.2.1 (hfO ▸ hO)
      rw [h3, stIn_O] at this
      exact this
    refine ⟨by rw [h6]; exact stOut_wf w1 (hm.2.2 win) (by rw [← hn]; exact hm.1), by have := hm.1; omega, fun hO' => w3 (hO hO'), fun y hy => ?_⟩
    rcases List.mem_cons.1 hy with rfl | hy
    · exact ⟨by omega, hm.1, by omega, fun hO' => hfO ▸ hO', win, hm.2.2 win⟩
    · obtain ⟨q1, q2, q3, q4, q5⟩ := w4 y hy
      exact ⟨q1, q2, by have := hm.1; omega, fun hO' => q4 (hO hO'), q5⟩
theorem hist_env : ∀ (H : List Step) (f : Fr), Hist P call nt ops B f0 H f → ∀ t : Tmp, getE f.e t = match H.find? (fun x => x.o.dst == some t) with | some x => x.v | none => getE f0.e t
  | [], f, h, t => by simp only [Hist] at h; subst h; rfl
  | x :: H, f, h, t => by
    obtain ⟨fp, h1, h2, h3, h4, h5, h6, _⟩ := h
    have ih := hist_env H fp h1 t
    rw [List.find?_cons]
    unfold putO at h5
    cases hd : x.o.dst with
    | none =>
      rw [hd] at h5
      simp only [Option.some.injEq] at h5
      rw [← h5, ih]
      rfl
    | some d =>
      rw [hd] at h5
      obtain ⟨_, h5⟩ := bif_some h5
      simp only [Option.some.injEq] at h5
      rw [← h5, getE_putE]
      by_cases ht : t = d
      · subst ht
        simp
      · have : ((some d : Option Tmp) == some t) = false := by
          rw [beq_eq_false_iff_ne]; intro e; cases e; exact ht rfl
        rw [if_neg ht, ih, this]
theorem hist_split : ∀ (H1 : List Step) (H2 : List Step) (f : Fr), Hist P call nt ops B f0 (H1 ++ H2) f → ∃ f2, Hist P call nt ops B f0 H2 f2
  | [], H2, f, h => ⟨f, h⟩
  | x :: H1, H2, f, h => by
    obtain ⟨fp, h1, _⟩ := h
    exact hist_split H1 H2 fp h1
theorem hist_ops : ∀ (H : List Step) (f : Fr), Hist P call nt ops B f0 H f → ∀ x ∈ H, ops[x.i]? = some x.o ∧ (∀ j ∈ edges x.o, ∃ y ∈ H, y.i = j)
  | [], _, _, x, hx => nomatch hx
  | y :: H, f, h, x, hx => by
    obtain ⟨fp, h1, _, _, _, _, _, h7, _, h8, _⟩ := h
    rcases List.mem_cons.1 hx with rfl | hx
    · refine ⟨h7, fun j hj => ?_⟩
      obtain ⟨z, hz, e⟩ := h8 j hj
      exact ⟨z, List.mem_cons_of_mem _ hz, e⟩
    · obtain ⟨q1, q2⟩ := hist_ops H fp h1 x hx
      refine ⟨q1, fun j hj => ?_⟩
      obtain ⟨z, hz, e⟩ := q2 j hj
      exact ⟨z, List.mem_cons_of_mem _ hz, e⟩
theorem hist_uniq : ∀ (H1 : List Step) (x : Step) (H2 : List Step) (f : Fr), Hist P call nt ops B f0 (H1 ++ x :: H2) f → (∀ y ∈ H1, y.i ≠ x.i) ∧ ∀ y ∈ H2, y.i ≠ x.i
  | [], x, H2, f, h => by
    obtain ⟨fp, h1, _, _, _, _, _, h7, h8, _⟩ := h
    exact ⟨fun y hy => (by cases hy), h8⟩
  | z :: H1, x, H2, f, h => by
    obtain ⟨fp, h1, _, _, _, _, _, h7, h8, _⟩ := h
    obtain ⟨q1, q2⟩ := hist_uniq H1 x H2 fp h1
    refine ⟨fun y hy => ?_, q2⟩
    rcases List.mem_cons.1 hy with rfl | hy
    · exact fun e => h8 x (by simp) e.symm
    · exact q1 y hy
/-- The bits of one that was walked are of those that were walked ahead of it. -/
theorem hist_bits (hB : okBefores ops.toList B = true) {H1 : List Step} {x : Step} {H2 : List Step} {f : Fr} (h : Hist P call nt ops B f0 (H1 ++ x :: H2) f) {k : Nat} (hk : k < ops.size)
    (hb : (getD' 0 B x.i).testBit k = true) : ∃ y ∈ H2, y.i = k := by
  obtain ⟨fx, hx⟩ := hist_split H1 (x :: H2) f h
  obtain ⟨fp, h1, _, _, _, _, _, h7, _, h8, _⟩ := hx
  refine bits_in hB (D := fun i => ∃ y ∈ H2, y.i = i) ?_ x.i x.o h7 h8 k hk hb
  rintro i o hi ⟨y, hy, rfl⟩ j hj
  obtain ⟨q1, q2⟩ := hist_ops H2 fp h1 y hy
  rw [q1] at hi
  cases hi
  exact q2 j hj
theorem hist_chain : ∀ (H1 : List Step) (x : Step) (H2 : List Step) (f : Fr), Hist P call nt ops B f0 (H1 ++ x :: H2) f → freeOp x.o = false → ∀ y ∈ H1, (getD' 0 B y.i).testBit x.i = true
  | [], _, _, _, _, _, y, hy => by cases hy
  | z :: H1, x, H2, f, h, hf, y, hy => by
    obtain ⟨fp, h1, _, _, _, _, _, _, _, _, h9⟩ := h
    rcases List.mem_cons.1 hy with rfl | hy
    · exact h9 x (by simp) hf
    · exact hist_chain H1 x H2 fp h1 hf y hy
/-- What one saw that is free stands so, and what it made, till one comes that waited for it. -/
theorem hist_stable (hc : MonoCall call) (hw : WFn f0.s) {x : Step} (hx : freeOp x.o = true) : ∀ (H1 H2 : List Step) (f : Fr), Hist P call nt ops B f0 (H1 ++ x :: H2) f →
    (∀ c ∈ H1, freeOp c.o = false → (getD' 0 B c.i).testBit x.i = false) →
    (∀ g k, look x.sin.h g = some k → ∃ k', look f.s.h g = some k' ∧ k.op = k'.op ∧ k.cells = k'.cells) ∧ (∀ g, x.sin.n ≤ g → g < x.sout.n → look f.s.h g = look x.sout.h g) ∧
    (∀ y ∈ x.sin.lo, y ∈ f.s.lo) ∧ (∀ y ∈ f.s.lo, x.sin.n ≤ y.1 → y.1 < x.sout.n → y ∈ x.sout.lo)
  | [], H2, f, h, _ => by
    obtain ⟨fp, h1, h2, h3, h4, h5, h6, _⟩ := h
    obtain ⟨w1, _⟩ := hist_n hc hw H2 fp h1
    have hn : x.sin.n = fp.s.n := by rw [h3, stIn_n]
    refine ⟨fun g k hk => ?_, fun g g1 g2 => ?_, fun y hy => ?_, fun y hy g1 g2 => ?_⟩
    · rw [h3] at hk
      obtain ⟨_, _, k', q1, q2, q3, _⟩ := stIn_look hk
      refine ⟨k', ?_, q2, q3⟩
      rw [h6, stOut_old (w1.1 g k' q1), if_pos (.inl hx)]
      exact q1
    · rw [h6, stOut_new w1 (by omega)]
    · rw [h3] at hy
      rw [h6]
      exact stOut_lo.2 (.inr (stIn_lo hy).1)
    · rw [h6] at hy
      rcases stOut_lo.1 hy with q | q
      · exact q.1
      · have := w1.2 y q; omega
  | c :: H1, H2, f, h, hb => by
    obtain ⟨fp, h1, h2, h3, h4, h5, h6, _⟩ := h
    obtain ⟨w1, _, _, w4⟩ := hist_n hc hw _ fp h1
    obtain ⟨i1, i2, i3, i4⟩ := hist_stable hc hw hx H1 H2 fp h1 fun d hd => hb d (List.mem_cons_of_mem _ hd)
    obtain ⟨_, x2, x3, _⟩ := w4 x (by simp)
    have hxm : x ∈ H1 ++ x :: H2 := by simp
    refine ⟨fun g k hk => ?_, fun g g1 g2 => ?_, fun y hy => ?_, fun y hy g1 g2 => ?_⟩
    · obtain ⟨k', q1, q2, q3⟩ := i1 g k hk
      refine ⟨k', ?_, q2, q3⟩
      rw [h6, stOut_old (w1.1 g k' q1), if_pos ?_]
      · exact q1
      · cases hf : freeOp c.o
        · have hbc := hb c (List.mem_cons_self ..) hf
          refine .inr (.inr (locked_iff.2 ⟨x, hxm, hbc, ?_⟩))
          obtain ⟨fx, hfx⟩ := hist_split H1 (x :: H2) fp h1
          obtain ⟨fp2, _, e2, e3, _⟩ := hfx
          rw [e3] at hk
          obtain ⟨_, q4, _⟩ := stIn_look hk
          rw [e2]
          exact (q4 hx).1
        · exact .inl rfl
    · rw [h6, stOut_old (by omega), if_pos ?_]
      · exact i2 g g1 g2
      · cases hf : freeOp c.o
        · have hbc := hb c (List.mem_cons_self ..) hf
          exact .inr (.inl (hidden_iff.2 ⟨x, hxm, hbc, g1, g2⟩))
        · exact .inl rfl
    · rw [h6]
      exact stOut_lo.2 (.inr (i3 y hy))
    · rw [h6] at hy
      rcases stOut_lo.1 hy with q | q
      · omega
      · exact i4 y q g1 g2
theorem hist_apart (hc : MonoCall call) (hw : WFn f0.s) {H : List Step} {f : Fr} (h : Hist P call nt ops B f0 H f) {x y : Step} (hx : x ∈ H) (hy : y ∈ H) (hne : x.i ≠ y.i) : x.sout.n ≤ y.sin.n ∨ y.sout.n ≤ x.sin.n := by
  induction H generalizing f with
  | nil => cases hx
  | cons z H ih =>
    obtain ⟨fp, h1, h2, h3, h4, h5, h6, _⟩ := h
    obtain ⟨_, _, _, w4⟩ := hist_n hc hw H fp h1
    have hn : z.sin.n = fp.s.n := by rw [h3, stIn_n]
    rcases List.mem_cons.1 hx with ex | hx' <;> rcases List.mem_cons.1 hy with ey | hy'
    · exact absurd (by rw [ex, ey]) hne
    · right; have := (w4 y hy').2.2.1; rw [ex]; omega
    · left; have := (w4 x hx').2.2.1; rw [ey]; omega
    · exact ih h1 hx' hy'
theorem hist_dst (hT : okTmps ops.toList B = true) {H : List Step} {f : Fr} (h : Hist P call nt ops B f0 H f) {x y : Step} (hx : x ∈ H) (hy : y ∈ H) {d : Tmp} (dx : x.o.dst = some d) (dy : y.o.dst = some d) : x.i = y.i := by
  by_cases e : x.i = y.i
  · exact e
  · exact absurd dx (okTmps_spec hT (hist_ops H f h x hx).1 (hist_ops H f h y hy).1 e dy).1
end

/-- One operation, seen from where the region began. -/
theorem compose {r0 r r' : Ren} {s0 sA sin sout sZ : St} {w0 w w' : World} (A : To r0 s0 w0 r sA w) (T : To r sin w r' sout w')
    (hin : ∀ g k, look sin.h g = some k → ∃ k', look sA.h g = some k' ∧ (k.rw = true → k'.rw = true))
    (hz : ∀ g k, look sZ.h g = some k → look sout.h g = some k ∨ (look sA.h g = some k ∧ ∀ k', look sin.h g = some k' → k'.rw = false))
    (hl : ∀ x ∈ sZ.lo, x ∈ sout.lo ∨ x ∈ sA.lo) (h1 : s0.n ≤ sin.n) (h2 : sout.n ≤ sZ.n) (h3 : sA.n ≤ sZ.n) : To r0 s0 w0 r' sZ w' := by
  have hA := A.good
  have far : ∀ g k, look sA.h g = some k → (∀ k', look sin.h g = some k' → k'.rw = false) → w'.heap[r.b g]? = w.heap[r.b g]? := fun g k hk hn =>
    T.frame (r.b g) (hA.is g k hk).lt fun g1 k1 hk1 hrw e => by
      obtain ⟨k2, q1, _⟩ := hin g1 k1 hk1
      have := hA.inj g1 g k2 k q1 hk e
      subst this
      rw [hn k1 hk1] at hrw
      cases hrw
  refine ⟨A.ext.trans T.ext, fun g hg => ?_, by have := T.le; omega, A.good0, ⟨fun g k hk => ?_, fun g g' k k' h5 h6 h7 => ?_, fun g k hk => ?_, fun x hx => ?_⟩, T.os.trans A.os, T.tape.trans A.tape, T.output.trans A.output, Nat.le_trans A.size T.size, fun b hb hn => ?_, fun g k hk => ?_⟩
  · rcases T.dom g hg with q | q
    · rcases A.dom g q with q | q
      · exact .inl q
      · exact .inr ⟨q.1, by omega⟩
    · exact .inr ⟨by omega, by omega⟩
  · rcases hz g k hk with q | ⟨q, hn⟩
    · exact T.good.is g k q
    · exact (hA.is g k q).ext T.ext (hA.lt g k q).1 (hA.lt g k q).2 (far g k q hn)
  · have mixed : ∀ g g' k k', look sout.h g = some k → look sA.h g' = some k' → (∀ k'', look sin.h g' = some k'' → k''.rw = false) → r'.b g = r'.b g' → g = g' := by
      intro g g' k k' q q' hn' h7
      rw [T.ext.b g' (hA.lt g' k' q').1] at h7
      rcases T.own g k q with ⟨k0, q1, _⟩ | q1 | ⟨g0, k0, q1, q2, q3⟩
      · obtain ⟨k2, q3, _⟩ := hin g k0 q1
        rw [T.ext.b g (hA.lt g k2 q3).1] at h7
        exact hA.inj g g' k2 k' q3 q' h7
      · have := (hA.is g' k' q').lt; omega
      · obtain ⟨k2, q4, _⟩ := hin g0 k0 q1
        have := hA.inj g0 g' k2 k' q4 q' (q3.trans h7)
        subst this
        rw [hn' k0 q1] at q2
        cases q2
    rcases hz g k h5 with q | ⟨q, hn⟩ <;> rcases hz g' k' h6 with q' | ⟨q', hn'⟩
    · exact T.good.inj g g' k k' q q' h7
    · exact mixed g g' k k' q q' hn' h7
    · exact (mixed g' g k' k q' q hn h7.symm).symm
    · rw [T.ext.b g (hA.lt g k q).1, T.ext.b g' (hA.lt g' k' q').1] at h7
      exact hA.inj g g' k k' q q' h7
  · rcases hz g k hk with q | ⟨q, _⟩
    · exact T.good.lt g k q
    · exact ⟨T.ext.d g (hA.lt g k q).1, (hA.lt g k q).2.mono T.ext.d⟩
  · rcases hl x hx with q | q
    · exact T.good.lo x q
    · have := hA.lo x q
      rw [T.ext.c x.1 this.2]
      exact ⟨this.1, T.ext.d _ this.2⟩
  · refine (T.frame b (Nat.lt_of_lt_of_le hb A.size) fun g k hk hrw e => ?_).trans (A.frame b hb hn)
    obtain ⟨k', q1, q2⟩ := hin g k hk
    rcases A.own g k' q1 with ⟨k0, q3, q4⟩ | q3 | ⟨g0, k0, q3, q4, q5⟩
    · exact hn g k0 q3 (q4 (q2 hrw)) ((A.ext.b g (A.good0.lt g k0 q3).1).symm.trans e)
    · omega
    · exact hn g0 k0 q3 q4 (q5.trans e)
  · have fromA : ∀ k', look sA.h g = some k' → (k.rw = true → k'.rw = true) → (∃ k0, look s0.h g = some k0 ∧ (k.rw = true → k0.rw = true)) ∨ w0.heap.size ≤ r'.b g ∨ ∃ g0 k0, look s0.h g0 = some k0 ∧ k0.rw = true ∧ r0.b g0 = r'.b g := by
      intro k' q1 q2
      have he := T.ext.b g (hA.lt g k' q1).1
      rcases A.own g k' q1 with ⟨k0, q3, q4⟩ | q3 | ⟨g0, k0, q3, q4, q5⟩
      · exact .inl ⟨k0, q3, fun h => q4 (q2 h)⟩
      · exact .inr (.inl (by omega))
      · exact .inr (.inr ⟨g0, k0, q3, q4, q5.trans he.symm⟩)
    rcases hz g k hk with q | ⟨q, _⟩
    · rcases T.own g k q with ⟨k0, q1, q2⟩ | q1 | ⟨g0, k0, q1, q2, q3⟩
      · obtain ⟨k2, q3, q4⟩ := hin g k0 q1
        exact fromA k2 q3 fun h => q4 (q2 h)
      · have := A.size; exact .inr (.inl (by omega))
      · obtain ⟨k2, q4, q5⟩ := hin g0 k0 q1
        rcases A.own g0 k2 q4 with ⟨k1, q6, q7⟩ | q6 | ⟨g1, k1, q6, q7, q8⟩
        · exact .inr (.inr ⟨g0, k1, q6, q7 (q5 q2), (A.ext.b g0 (A.good0.lt g0 k1 q6).1).symm.trans q3⟩)
        · exact .inr (.inl (by omega))
        · exact .inr (.inr ⟨g1, k1, q6, q7, q8.trans q3⟩)
    · exact fromA k q id
end Go.Proofs.Ytnnagaioiodniaa.Eng
