/-
  The abstract machine: a region that draws its order does the same, whatever the order.
-/
import Derived.Test.YtnnagaioiodniaaEngR
namespace Go.Proofs.Ytnnagaioiodniaa.Eng
open Go.RowKit

section
variable {P : Program} {call : CallK} {nt : Nat} {ops : Array Oper} {B : List Nat} {f0 f' : Fr} {r0 : Ren} {w0 : World}
/-- All that it waited for has come up. -/
theorem bits_done (hB : okBefores ops.toList B = true) {listed : Array Bool} (hc : ∀ i o, ops[i]? = some o → done listed i = true → ∀ j ∈ edges o, done listed j = true) {i : Nat} {o : Oper} (hi : ops[i]? = some o)
    (he : ∀ j ∈ edges o, done listed j = true) {k : Nat} (hk : k < ops.size) (hb : (getD' 0 B i).testBit k = true) : done listed k = true :=
  bits_in hB (D := fun i => done listed i = true) hc i o hi he k hk hb

theorem cond_free (hB : okBefores ops.toList B = true) (hT : okTmps ops.toList B = true) (hc : MonoCall call) (hw : WFn f0.s) {l : List Nat} {H : List Step} {f : Fr} {listed : Array Bool} {r : Ren} {a : Act} {w : World}
    (C : Cond P call nt ops B f0 f' r0 w0 l H f listed r a w) {x : Step} (hx : x ∈ H) (hun : done listed x.i = false) (hed : ∀ j ∈ edges x.o, done listed j = true) (hil : x.i ∉ l) :
    (∀ t ∈ x.o.looksAt ops, Tm r x.e a t) ∧ Good r x.sin w ∧
    ∀ r' w', To r x.sin w r' x.sout w' → bnd r'.d x.v = true → Cond P call nt ops B f0 f' r0 w0 l H f (listed.setIfInBounds x.i true) r' (a.put x.o.dst (r'.val x.v)) w' := by
  have hfree : freeOp x.o = true := by
    cases hf : freeOp x.o
    · rw [C.chain x hx hf] at hun; cases hun
    · rfl
  obtain ⟨hops, _⟩ := hist_ops H f C.hist x hx
  have hlt : x.i < ops.size := (Array.getElem?_eq_some_iff.1 hops).1
  obtain ⟨H1, H2, rfl⟩ := List.append_of_mem hx
  obtain ⟨u1, u2⟩ := hist_uniq H1 x H2 f C.hist
  have hlater : ∀ y ∈ H1, done listed y.i = true → (getD' 0 B y.i).testBit x.i = false := by
    intro y hy hyd
    cases hb : (getD' 0 B y.i).testBit x.i
    · rfl
    · obtain ⟨q1, q2⟩ := hist_ops _ f C.hist y (by simp [hy])
      have := bits_done hB C.closed q1 (fun j hj => C.closed y.i y.o q1 hyd j hj) hlt hb
      rw [hun] at this; cases this
  obtain ⟨st1, st2, st3, st4⟩ := hist_stable hc hw hfree H1 H2 f C.hist fun c hcm hcf => hlater c hcm (C.chain c (by simp [hcm]) hcf)
  obtain ⟨wf, nf, _, hin⟩ := hist_n hc hw _ f C.hist
  obtain ⟨_, xn1, xn2, _, _, wout⟩ := hin x hx
  obtain ⟨fx, hfx⟩ := hist_split H1 (x :: H2) f C.hist
  have hfx' := hfx
  obtain ⟨fp, hp1, hp2, hp3, _⟩ := hfx'
  -- what it sees has come up
  have vis : ∀ g, hidden (getD' 0 B x.i) (recsOf H2) g = false → g < x.sin.n → missing listed (H1 ++ x :: H2) g = false := by
    intro g hg hgn
    cases hm : missing listed (H1 ++ x :: H2) g
    · rfl
    · obtain ⟨y, hy, hyd, g1, g2⟩ := missing_iff.1 hm
      rcases List.mem_append.1 hy with hy1 | hy2
      · -- later ones have later letters
        exfalso
        obtain ⟨H1a, H1b, rfl⟩ := List.append_of_mem hy1
        rw [List.append_assoc, List.cons_append] at C
        obtain ⟨fy, hfy⟩ := hist_split H1a _ f C.hist
        obtain ⟨fq, hq1, _, hq3, _⟩ := hfy
        obtain ⟨_, _, _, hq4⟩ := hist_n hc hw _ fq hq1
        have h5 := (hq4 x (by simp)).2.2.1
        have h6 : y.sin.n = fq.s.n := by rw [hq3, stIn_n]
        omega
      · rcases List.mem_cons.1 hy2 with rfl | hy2
        · omega
        · exfalso
          have : (getD' 0 B x.i).testBit y.i = true := by
            cases hb : (getD' 0 B x.i).testBit y.i
            · have := hidden_iff.2 ⟨y, hy2, hb, g1, g2⟩
              rw [hg] at this; cases this
            · rfl
          have hyl := (Array.getElem?_eq_some_iff.1 (hist_ops _ f C.hist y hy).1).1
          have := bits_done hB C.closed hops hed hyl this
          rw [hyd] at this; cases this
  have hinA : ∀ g k, look x.sin.h g = some k → ∃ k', look (cut listed (H1 ++ x :: H2) f.s).h g = some k' ∧ k.op = k'.op ∧ k.cells = k'.cells ∧ k.rw = false := by
    intro g k hk
    obtain ⟨k', q1, q2, q3⟩ := st1 g k hk
    have hk2 := hk
    rw [hp3] at hk2
    obtain ⟨q4, q5, k'', q6, _⟩ := stIn_look hk2
    have hgn : g < x.sin.n := by
      rw [hp3, stIn_n]
      exact (hist_n hc hw H2 fp hp1).1.1 g k'' q6
    exact ⟨k', cut_look.2 ⟨vis g q4 hgn, q1⟩, q2, q3, (q5 hfree).2⟩
  have hinL : ∀ y ∈ x.sin.lo, y ∈ (cut listed (H1 ++ x :: H2) f.s).lo := by
    intro y hy
    have hy2 := hy
    rw [hp3] at hy2
    obtain ⟨q1, q2⟩ := stIn_lo hy2
    have hgn : y.1 < x.sin.n := by
      rw [hp3, stIn_n]
      exact (hist_n hc hw H2 fp hp1).1.2 y q1
    exact cut_lo.2 ⟨st3 y hy, vis y.1 q2 hgn⟩
  have dstU : ∀ {y z : Step}, y ∈ H1 ++ x :: H2 → z ∈ H1 ++ x :: H2 → ∀ {t : Tmp}, y.o.dst = some t → z.o.dst = some t → y.i = z.i := fun hy hz _ h1 h2 => hist_dst hT C.hist hy hz h1 h2
  refine ⟨fun t ht => ?_, ?_, ?_⟩
  · -- the temporaries that it reads
    have h1 := C.env t
    have h2 := hist_env H2 fp hp1 t
    have key : envD listed (H1 ++ x :: H2) f0.e t = getE x.e t := by
      rw [hp2, h2]
      unfold envD
      cases hfd : (H1 ++ x :: H2).find? (fun x => x.o.dst == some t) with
      | none =>
        have hn := find_none hfd
        rw [List.find?_eq_none.2 (fun y hy => by simpa using hn y (by simp [hy]))]
      | some y =>
        obtain ⟨hy, hyd⟩ := find_mem hfd
        simp only []
        rcases List.mem_append.1 hy with hy1 | hy2
        · -- a later one: it has not come up
          have hnd : done listed y.i = false := by
            cases hd : done listed y.i
            · rfl
            · exfalso
              have hne : x.i ≠ y.i := fun e => u1 y hy1 e.symm
              obtain ⟨_, q⟩ := okTmps_spec hT hops (hist_ops _ f C.hist y hy).1 hne hyd
              rcases q ht with q | q
              · obtain ⟨z, hz, e⟩ := hist_bits hB C.hist (Array.getElem?_eq_some_iff.1 (hist_ops _ f C.hist y hy).1).1 q
                obtain ⟨H1a, H1b, rfl⟩ := List.append_of_mem hy1
                have C2 := C.hist
                rw [List.append_assoc, List.cons_append] at C2
                exact (hist_uniq H1a y _ f C2).2 z (by simp [hz]) e
              · have := hlater y hy1 hd
                rw [q] at this; cases this
          rw [hnd]
          simp only [cond_false]
          rw [List.find?_eq_none.2 (fun z hz => by
            simp only [beq_iff_eq]
            intro hzd
            have e := dstU (by simp [hz]) hy hzd hyd
            obtain ⟨H1a, H1b, rfl⟩ := List.append_of_mem hy1
            have C2 := C.hist
            rw [List.append_assoc, List.cons_append] at C2
            exact (hist_uniq H1a y _ f C2).2 z (by simp [hz]) e)]
        · rcases List.mem_cons.1 hy2 with rfl | hy2
          · rw [hun]
            simp only [cond_false]
            rw [List.find?_eq_none.2 (fun z hz => by
              simp only [beq_iff_eq]
              intro hzd
              exact u2 z hz (dstU (by simp [hz]) hy hzd hyd))]
          · have hne : x.i ≠ y.i := fun e => u2 y hy2 e.symm
            have hxd : x.o.dst ≠ some t := fun e => hne (dstU hx hy e hyd)
            have hn1 : ∀ z ∈ H1, z.o.dst ≠ some t := fun z hz e => by
              have := dstU (by simp [hz]) hy e hyd
              obtain ⟨H1a, H1b, rfl⟩ := List.append_of_mem hz
              have C2 := C.hist
              rw [List.append_assoc, List.cons_append] at C2
              exact (hist_uniq H1a z _ f C2).2 y (by simp [hy2]) this.symm
            rw [find_split hn1 hxd] at hfd
            rw [hfd]
            have hyd2 : done listed y.i = true := by
              obtain ⟨_, q⟩ := okTmps_spec hT hops (hist_ops _ f C.hist y hy).1 hne hyd
              have hyl := (Array.getElem?_eq_some_iff.1 (hist_ops _ f C.hist y hy).1).1
              rcases q ht with q | q
              · exact bits_done hB C.closed hops hed hyl q
              · exfalso
                obtain ⟨H2a, H2b, rfl⟩ := List.append_of_mem hy2
                have C2 := C.hist
                rw [← List.cons_append, ← List.append_assoc] at C2
                obtain ⟨z, hz, e⟩ := hist_bits hB C2 hlt q
                exact u2 z (by simp [hz]) e
            simp only [hyd2, cond_true]
    unfold Tm
    rw [← key]
    exact h1
  · exact C.to.good.sub (fun g k hk => let ⟨k', q1, q2, q3, _⟩ := hinA g k hk; ⟨k', q1, q2, q3⟩) hinL
  · intro r' w' T hb
    have hset : ∀ j, done (listed.setIfInBounds x.i true) j = if j = x.i then true else done listed j := fun j => done_set (by rw [C.size]; exact hlt)
    have hmiss : ∀ g, missing (listed.setIfInBounds x.i true) (H1 ++ x :: H2) g = true ↔ ∃ y ∈ H1 ++ x :: H2, y.i ≠ x.i ∧ done listed y.i = false ∧ y.sin.n ≤ g ∧ g < y.sout.n := by
      intro g
      rw [missing_iff]
      constructor
      · rintro ⟨y, hy, h1, h2⟩
        rw [hset] at h1
        split at h1
        · cases h1
        · rename_i e; exact ⟨y, hy, e, h1, h2⟩
      · rintro ⟨y, hy, e, h1, h2⟩
        exact ⟨y, hy, by rw [hset, if_neg e]; exact h1, h2⟩
    have hmf : ∀ g, missing (listed.setIfInBounds x.i true) (H1 ++ x :: H2) g = false → ¬ (x.sin.n ≤ g ∧ g < x.sout.n) → missing listed (H1 ++ x :: H2) g = false := by
      intro g h1 h2
      cases hm : missing listed (H1 ++ x :: H2) g
      · rfl
      · obtain ⟨y, hy, q1, q2⟩ := missing_iff.1 hm
        by_cases e : y.i = x.i
        · have : y = x := by
            rcases List.mem_append.1 hy with hy1 | hy2
            · exact absurd e (u1 y hy1)
            · rcases List.mem_cons.1 hy2 with rfl | hy2
              · rfl
              · exact absurd e (u2 y hy2)
          subst this
          exact absurd q2 h2
        · rw [(hmiss g).2 ⟨y, hy, e, q1, q2⟩] at h1; cases h1
    refine ⟨C.hist, C.seq, C.ord, C.cover, by simp [C.size], fun i hi => ?_, fun y hy hf => ?_, C.after, fun i o hi hd j hj => ?_, ?_, by cases x.o.dst <;> simp [Act.put, C.sz], by cases x.o.dst <;> simp [Act.put, C.def_], ?_, ?_, fun y hy hd => ?_⟩
    · rw [hset, if_neg (fun e : i = x.i => hil (e ▸ hi))]; exact C.unl i hi
    · rw [hset]; split
      · rfl
      · exact C.chain y hy hf
    · rw [hset] at hd ⊢
      split
      · rfl
      · split at hd
        · rename_i e
          subst e
          rw [hops] at hi
          cases hi
          exact hed j hj
        · exact C.closed i o hi hd j hj
    · refine compose C.to T (fun g k hk => let ⟨k', q1, _, _, q4⟩ := hinA g k hk; ⟨k', q1, fun h => by rw [q4] at h; cases h⟩) (fun g k hk => ?_) (fun y hy => ?_) (hin x hx).1 xn2 (Nat.le_refl _)
      · obtain ⟨q1, q2⟩ := cut_look.1 hk
        by_cases hg : x.sin.n ≤ g ∧ g < x.sout.n
        · left; rw [← st2 g hg.1 hg.2]; exact q2
        · right
          exact ⟨cut_look.2 ⟨hmf g q1 hg, q2⟩, fun k' hk' => (hinA g k' hk').choose_spec.2.2.2⟩
      · obtain ⟨q1, q2⟩ := cut_lo.1 hy
        by_cases hg : x.sin.n ≤ y.1 ∧ y.1 < x.sout.n
        · left; exact st4 y q1 hg.1 hg.2
        · right; exact cut_lo.2 ⟨q1, hmf y.1 q2 hg⟩
    · refine cond_put (hist_put _ f C.hist x hx).2 C.sz T.ext hb (envD listed (H1 ++ x :: H2) f0.e) (envD (listed.setIfInBounds x.i true) (H1 ++ x :: H2) f0.e) C.env (fun t ht => ?_) (fun t ht => ?_)
      · unfold envD
        have hfd : (H1 ++ x :: H2).find? (fun x => x.o.dst == some t) = some x := by
          cases hfd : (H1 ++ x :: H2).find? (fun x => x.o.dst == some t) with
          | none => exact absurd ht (find_none hfd x hx)
          | some y =>
            obtain ⟨hy, hyd⟩ := find_mem hfd
            have e := dstU hy hx hyd ht
            rcases List.mem_append.1 hy with hy1 | hy2
            · exact absurd e (u1 y hy1)
            · rcases List.mem_cons.1 hy2 with rfl | hy2
              · rfl
              · exact absurd e (u2 y hy2)
        rw [hfd]
        simp only [hset, if_true, cond_true]
      · unfold envD
        cases hfd : (H1 ++ x :: H2).find? (fun x => x.o.dst == some t) with
        | none => rfl
        | some y =>
          obtain ⟨hy, hyd⟩ := find_mem hfd
          have hne : y.i ≠ x.i := fun e => by
            have : y = x := by
              rcases List.mem_append.1 hy with hy1 | hy2
              · exact absurd e (u1 y hy1)
              · rcases List.mem_cons.1 hy2 with rfl | hy2
                · rfl
                · exact absurd e (u2 y hy2)
            subst this
            exact ht hyd
          simp only [hset, if_neg hne]
    · intro g g1 g2
      cases hd : r'.d g
      · rfl
      · rcases T.dom g hd with q | q
        · rw [C.fr g g1 g2] at q; cases q
        · omega
    · rw [hset] at hd
      split at hd
      · cases hd
      · rename_i hne
        intro g g1 g2
        cases hdd : r'.d g
        · rfl
        · rcases T.dom g hdd with q | q
          · rw [C.frm y hy hd g g1 g2] at q; cases q
          · have := hist_apart hc hw C.hist hx hy (Ne.symm hne); omega

theorem cond_chain (hB : okBefores ops.toList B = true) (hT : okTmps ops.toList B = true) (hc : MonoCall call) (hw : WFn f0.s) {c : Nat} {l : List Nat} {H : List Step} {f : Fr} {listed : Array Bool} {r : Ren} {a : Act} {w : World} {o : Oper}
    (C : Cond P call nt ops B f0 f' r0 w0 (c :: l) H f listed r a w) (ho : ops[c]? = some o) (hch : freeOp o = false) (hed : ∀ j ∈ edges o, done listed j = true) :
    ∃ x : Step, ∃ f1 : Fr, x.i = c ∧ x.o = o ∧ xguarded P call ops x.e x.sin o = some (x.v, x.sout) ∧ (f'.s.O → x.sout.O) ∧ (∀ t ∈ o.looksAt ops, Tm r x.e a t) ∧ WFn x.sin ∧ Good r x.sin w ∧ Fresh r x.sin.n x.sout.n ∧
    ∀ r' w', To r x.sin w r' x.sout w' → bnd r'.d x.v = true → Cond P call nt ops B f0 f' r0 w0 l (x :: H) f1 (listed.setIfInBounds c true) r' (a.put o.dst (r'.val x.v)) w' := by
  obtain ⟨o', ho', hni, hedm, hord1, hord⟩ := ord_cons C.ord
  rw [ho] at ho'
  cases ho'
  obtain ⟨x, f1, rfl, rfl, e1, e2, e3, e4, e5, e6⟩ := seq_cons ho C.seq
  have hlt : x.i < ops.size := (Array.getElem?_eq_some_iff.1 ho).1
  have hni' : ∀ y ∈ H, y.i ≠ x.i := fun y hy e => hni (by rw [← e]; exact List.mem_map_of_mem hy)
  have hist1 : Hist P call nt ops B f0 (x :: H) f1 := by
    refine ⟨f, C.hist, e1, e2, e3, e4, e5, ho, hni', fun j hj => ?_, fun y hy hf => C.after y hy hf _ (List.mem_cons_self ..)⟩
    obtain ⟨y, hy, e⟩ := List.mem_map.1 (hedm j hj)
    exact ⟨y, hy, e⟩
  obtain ⟨w1, n1, _, hin⟩ := hist_n hc hw H f C.hist
  obtain ⟨w1', _, _, hin'⟩ := hist_n hc hw (x :: H) f1 hist1
  have hxn : x.sin.n = f.s.n := by rw [e2, stIn_n]
  have hfn : f1.s.n = x.sout.n := by rw [e5, stOut_n]
  have hle := (hin' x (List.mem_cons_self ..)).2.1
  have hms := mono_seq hc l _ _ _ e6
  have hun : done listed x.i = false := C.unl _ (List.mem_cons_self ..)
  have vis : ∀ g, hidden (getD' 0 B x.i) (recsOf H) g = false → missing listed H g = false := by
    intro g hg
    cases hm : missing listed H g
    · rfl
    · obtain ⟨y, hy, hyd, g1, g2⟩ := missing_iff.1 hm
      exfalso
      have : (getD' 0 B x.i).testBit y.i = true := by
        cases hb : (getD' 0 B x.i).testBit y.i
        · have := hidden_iff.2 ⟨y, hy, hb, g1, g2⟩
          rw [hg] at this; cases this
        · rfl
      have hyl := (Array.getElem?_eq_some_iff.1 (hist_ops _ f C.hist y hy).1).1
      have := bits_done hB C.closed ho hed hyl this
      rw [hyd] at this; cases this
  have hinA : ∀ g k, look x.sin.h g = some k → ∃ k', look (cut listed H f.s).h g = some k' ∧ k.op = k'.op ∧ k.cells = k'.cells ∧ (k.rw = true → k'.rw = true) := by
    intro g k hk
    rw [e2] at hk
    obtain ⟨q1, _, k', q2, q3, q4, q5⟩ := stIn_look hk
    exact ⟨k', cut_look.2 ⟨vis g q1, q2⟩, q3, q4, fun h => (q5 h).1⟩
  have hinL : ∀ y ∈ x.sin.lo, y ∈ (cut listed H f.s).lo := by
    intro y hy
    rw [e2] at hy
    obtain ⟨q1, q2⟩ := stIn_lo hy
    exact cut_lo.2 ⟨q1, vis y.1 q2⟩
  have hset : ∀ j, done (listed.setIfInBounds x.i true) j = if j = x.i then true else done listed j := fun j => done_set (by rw [C.size]; exact hlt)
  have hmiss : ∀ g, missing (listed.setIfInBounds x.i true) (x :: H) g = missing listed H g := by
    intro g
    rw [Bool.eq_iff_iff, missing_iff, missing_iff]
    constructor
    · rintro ⟨y, hy, h1, h2⟩
      rw [hset] at h1
      split at h1
      · cases h1
      · rename_i e
        rcases List.mem_cons.1 hy with rfl | hy
        · exact absurd rfl e
        · exact ⟨y, hy, h1, h2⟩
    · rintro ⟨y, hy, h1, h2⟩
      exact ⟨y, List.mem_cons_of_mem _ hy, by rw [hset, if_neg (hni' y hy)]; exact h1, h2⟩
  have dstU : ∀ {y z : Step}, y ∈ x :: H → z ∈ x :: H → ∀ {t : Tmp}, y.o.dst = some t → z.o.dst = some t → y.i = z.i := fun hy hz _ h1 h2 => hist_dst hT hist1 hy hz h1 h2
  refine ⟨x, f1, rfl, rfl, e3, fun hO => ?_, fun t ht => ?_, (hin' x (List.mem_cons_self ..)).2.2.2.2.1, C.to.good.sub (fun g k hk => let ⟨k', q1, q2, q3, _⟩ := hinA g k hk; ⟨k', q1, q2, q3⟩) hinL, ?_, ?_⟩
  · have := hms.2.1 hO
    rw [e5, stOut_O] at this
    exact this
  · have h1 := C.env t
    have h2 := hist_env H f C.hist t
    have key : envD listed H f0.e t = getE x.e t := by
      rw [e1, h2]
      unfold envD
      cases hfd : H.find? (fun x => x.o.dst == some t) with
      | none => rfl
      | some y =>
        obtain ⟨hy, hyd⟩ := find_mem hfd
        simp only []
        have hyd2 : done listed y.i = true := by
          have hyo := (hist_ops _ f C.hist y hy).1
          have hyl := (Array.getElem?_eq_some_iff.1 hyo).1
          obtain ⟨_, q⟩ := okTmps_spec hT ho hyo (Ne.symm (hni' y hy)) hyd
          rcases q ht with q | q
          · exact bits_done hB C.closed ho hed hyl q
          · exfalso
            obtain ⟨Ha, Hb, rfl⟩ := List.append_of_mem hy
            obtain ⟨z, hz, e⟩ := hist_bits hB C.hist hlt q
            exact hni' z (by simp [hz]) e
        rw [hyd2]
        rfl
    unfold Tm
    rw [← key]
    exact h1
  · refine C.fr.sub (by omega) ?_
    have := hms.1; omega
  · intro r' w' T hb
    refine ⟨hist1, e6, hord, fun j hj => ?_, by simp [C.size], fun i hi => ?_, fun y hy hf => ?_, fun y hy hf j hj => ?_, fun i o hi hd j hj => ?_, ?_, by cases x.o.dst <;> simp [Act.put, C.sz], by cases x.o.dst <;> simp [Act.put, C.def_], ?_, ?_, fun y hy hd => ?_⟩
    · rcases C.cover j hj with h | ⟨y, hy, e⟩
      · rcases List.mem_cons.1 h with rfl | h
        · exact .inr ⟨x, List.mem_cons_self .., rfl⟩
        · exact .inl h
      · exact .inr ⟨y, List.mem_cons_of_mem _ hy, e⟩
    · rw [hset]
      split
      · rename_i e
        exfalso
        subst e
        -- a number stands once in an order
        have : ∀ (l : List Nat) (dn : List Nat), okSched ops.toList B l dn = true → ∀ i ∈ dn, i ∉ l := by
          intro l
          induction l with
          | nil => intro dn _ i _ h; cases h
          | cons j l ih =>
            intro dn h i hi hm
            obtain ⟨_, _, q1, _, _, q2⟩ := ord_cons h
            rcases List.mem_cons.1 hm with rfl | hm
            · exact q1 hi
            · exact ih _ q2 i (List.mem_cons_of_mem _ hi) hm
        exact this l _ hord _ (List.mem_cons_self ..) hi
      · exact C.unl i (List.mem_cons_of_mem _ hi)
    · rw [hset]
      split
      · rfl
      · rename_i e
        rcases List.mem_cons.1 hy with rfl | hy
        · exact absurd rfl e
        · exact C.chain y hy hf
    · rcases List.mem_cons.1 hy with rfl | hy
      · rcases hord1 with q | q
        · rw [hch] at q; cases q
        · exact q j hj
      · exact C.after y hy hf j (List.mem_cons_of_mem _ hj)
    · rw [hset] at hd ⊢
      split
      · rfl
      · split at hd
        · rename_i e
          subst e
          rw [ho] at hi
          cases hi
          exact hed j hj
        · exact C.closed i o hi hd j hj
    · refine compose C.to T (fun g k hk => let ⟨k', q1, _, _, q4⟩ := hinA g k hk; ⟨k', q1, q4⟩) (fun g k hk => ?_) (fun y hy => ?_) (by omega) (by show x.sout.n ≤ f1.s.n; omega) (by show f.s.n ≤ f1.s.n; omega)
      · obtain ⟨q1, q2⟩ := cut_look.1 hk
        rw [hmiss] at q1
        rcases Nat.lt_or_ge g f.s.n with hg | hg
        · rw [e5, stOut_old hg] at q2
          split at q2
          · rename_i hcase
            right
            refine ⟨cut_look.2 ⟨q1, q2⟩, fun k' hk' => ?_⟩
            rw [e2] at hk'
            obtain ⟨q3, _, k'', q4, q5, q6, q7⟩ := stIn_look hk'
            rcases hcase with h | h | h
            · rw [hch] at h; cases h
            · rw [q3] at h; cases h
            · cases hrw : k'.rw
              · rfl
              · rw [(q7 hrw).2] at h; cases h
          · exact .inl q2
        · rw [e5, stOut_new w1 hg] at q2
          exact .inl q2
      · obtain ⟨q1, q2⟩ := cut_lo.1 hy
        rw [hmiss] at q2
        rw [e5] at q1
        rcases stOut_lo.1 q1 with q | q
        · exact .inl q.1
        · exact .inr (cut_lo.2 ⟨q, q2⟩)
    · refine cond_put (put_lt e4) C.sz T.ext hb (envD listed H f0.e) (envD (listed.setIfInBounds x.i true) (x :: H) f0.e) C.env (fun t ht => ?_) (fun t ht => ?_)
      · unfold envD
        rw [List.find?_cons, ht]
        simp [hset]
      · unfold envD
        have hb : (x.o.dst == some t) = false := by simpa using ht
        rw [List.find?_cons, hb]
        simp only []
        cases hfd : H.find? (fun x => x.o.dst == some t) with
        | none => rfl
        | some y =>
          obtain ⟨hy, hyd⟩ := find_mem hfd
          simp only [hset, if_neg (hni' y hy)]
    · intro g g1 g2
      cases hd : r'.d g
      · rfl
      · rcases T.dom g hd with q | q
        · rw [C.fr g (by omega) g2] at q; cases q
        · omega
    · rw [hset] at hd
      split at hd
      · cases hd
      · rename_i hne
        rcases List.mem_cons.1 hy with rfl | hy
        · exact absurd rfl hne
        · intro g g1 g2
          cases hdd : r'.d g
          · rfl
          · rcases T.dom g hdd with q | q
            · rw [C.frm y hy hd g g1 g2] at q; cases q
            · have := (hin y hy).2.2.1; omega
end
end Go.Proofs.Ytnnagaioiodniaa.Eng
