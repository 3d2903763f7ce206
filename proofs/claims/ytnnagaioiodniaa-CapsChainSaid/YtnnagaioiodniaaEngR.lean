/-
  The abstract machine: a region that draws its order, whatever the order.
-/
import Derived.Test.YtnnagaioiodniaaEngQ
namespace Go.Proofs.Ytnnagaioiodniaa.Eng
open Go.RowKit

def done (listed : Array Bool) (i : Nat) : Bool := listed.getD i false
/-- a letter of one that has not come up yet -/
def missing (listed : Array Bool) (H : List Step) (g : Nat) : Bool := H.any fun x => !done listed x.i && Nat.ble x.sin.n g && Nat.blt g x.sout.n
theorem missing_iff {listed : Array Bool} {H : List Step} {g : Nat} : missing listed H g = true ↔ ∃ x ∈ H, done listed x.i = false ∧ x.sin.n ≤ g ∧ g < x.sout.n := by
  unfold missing
  rw [List.any_eq_true]
  constructor
  · rintro ⟨x, hx, h⟩
    simp only [Bool.and_eq_true, Bool.not_eq_true', Nat.ble_eq, Nat.blt_eq] at h
    exact ⟨x, hx, h.1.1, h.1.2, h.2⟩
  · rintro ⟨x, hx, h1, h2, h3⟩
    refine ⟨x, hx, ?_⟩
    simp only [Bool.and_eq_true, Bool.not_eq_true', Nat.ble_eq, Nat.blt_eq]
    exact ⟨⟨h1, h2⟩, h3⟩
def cut (listed : Array Bool) (H : List Step) (s : St) : St := { s with h := s.h.filter fun y => !missing listed H y.1, lo := s.lo.filter fun y => !missing listed H y.1 }
theorem cut_look {listed : Array Bool} {H : List Step} {s : St} {g : Nat} {k : Blk} : look (cut listed H s).h g = some k ↔ missing listed H g = false ∧ look s.h g = some k := by
  unfold cut
  simp only []
  rw [look_filter (fun x => !missing listed H x)]
  cases missing listed H g <;> simp
theorem cut_lo {listed : Array Bool} {H : List Step} {s : St} {y : Nat × Nat} : y ∈ (cut listed H s).lo ↔ y ∈ s.lo ∧ missing listed H y.1 = false := by
  unfold cut
  simp [List.mem_filter]
/-- what a temporary is by now -/
def envD (listed : Array Bool) (H : List Step) (e0 : Env) (t : Tmp) : Value :=
  match H.find? (fun x => x.o.dst == some t) with
  | some x => bif done listed x.i then x.v else getE e0 t
  | none => getE e0 t

structure Cond (P : Program) (call : CallK) (nt : Nat) (ops : Array Oper) (B : List Nat) (f0 f' : Fr) (r0 : Ren) (w0 : World) (l : List Nat) (H : List Step) (f : Fr) (listed : Array Bool) (r : Ren) (a : Act) (w : World) : Prop where
  hist : Hist P call nt ops B f0 H f
  seq : evSeq P call nt ops B l (recsOf H) f = some f'
  ord : okSched ops.toList B l (H.map (·.i)) = true
  cover : ∀ i, i < ops.size → i ∈ l ∨ ∃ x ∈ H, x.i = i
  size : listed.size = ops.size
  unl : ∀ i ∈ l, done listed i = false
  chain : ∀ x ∈ H, freeOp x.o = false → done listed x.i = true
  after : ∀ x ∈ H, freeOp x.o = false → ∀ j ∈ l, (getD' 0 B j).testBit x.i = true
  closed : ∀ i o, ops[i]? = some o → done listed i = true → ∀ j ∈ edges o, done listed j = true
  to : To r0 f0.s w0 r (cut listed H f.s) w
  sz : a.tmps.size = nt
  def_ : a.defers = []
  env : ∀ t : Tmp, a.tmps.getD t undef = r.val (envD listed H f0.e t) ∧ bnd r.d (envD listed H f0.e t) = true
  fr : Fresh r f.s.n f'.s.n
  frm : ∀ x ∈ H, done listed x.i = false → Fresh r x.sin.n x.sout.n

section
variable {P : Program} {call : CallK} {nt : Nat} {ops : Array Oper} {B : List Nat} {f0 f' : Fr} {r0 : Ren} {w0 : World}
theorem ord_cons {i : Nat} {l : List Nat} {dn : List Nat} (h : okSched ops.toList B (i :: l) dn = true) :
    ∃ o, ops[i]? = some o ∧ i ∉ dn ∧ (∀ j ∈ edges o, j ∈ dn) ∧ (freeOp o = true ∨ ∀ j ∈ l, (getD' 0 B j).testBit i = true) ∧ okSched ops.toList B l (i :: dn) = true := by
  simp only [okSched] at h
  split at h
  · cases h
  · rename_i o ho
    rw [Array.getElem?_toList] at ho
    simp only [Bool.and_eq_true, Bool.or_eq_true, Bool.not_eq_true', List.all_eq_true, memN_iff] at h
    obtain ⟨⟨⟨h1, h2⟩, h3⟩, h4⟩ := h
    refine ⟨o, ho, fun hc => ?_, h2, h3, h4⟩
    rw [memN_iff.2 hc] at h1; cases h1
theorem find_mem {H : List Step} {t : Tmp} {y : Step} (h : H.find? (fun x => x.o.dst == some t) = some y) : y ∈ H ∧ y.o.dst = some t :=
  ⟨List.mem_of_find?_eq_some h, by have := List.find?_some h; simpa using this⟩
theorem find_none {H : List Step} {t : Tmp} (h : H.find? (fun x => x.o.dst == some t) = none) : ∀ x ∈ H, x.o.dst ≠ some t := by
  intro x hx e
  have := List.find?_eq_none.1 h x hx
  simp [e] at this
theorem seq_cons {i : Nat} {l : List Nat} {H : List Step} {f : Fr} {o : Oper} (ho : ops[i]? = some o) (h : evSeq P call nt ops B (i :: l) (recsOf H) f = some f') :
    ∃ x : Step, ∃ f1 : Fr, x.i = i ∧ x.o = o ∧ x.e = f.e ∧ x.sin = stIn (getD' 0 B i) (recsOf H) f.e f.s o ∧ xguarded P call ops x.e x.sin x.o = some (x.v, x.sout) ∧ putO nt f.e o.dst x.v = some f1.e ∧
      f1.s = stOut (getD' 0 B i) (recsOf H) f.s o x.sout ∧ evSeq P call nt ops B l (recsOf (x :: H)) f1 = some f' := by
  simp only [evSeq] at h
  rw [Array.getElem?_toList, ho] at h
  simp only [] at h
  replace h := Option.bind_eq_some_iff.1 h
  obtain ⟨⟨v, s1⟩, h1, h⟩ := h
  replace h := Option.bind_eq_some_iff.1 h
  obtain ⟨e1, h2, h⟩ := h
  refine ⟨⟨i, o, v, f.e, stIn (getD' 0 B i) (recsOf H) f.e f.s o, s1⟩, ⟨e1, stOut (getD' 0 B i) (recsOf H) f.s o s1⟩, rfl, rfl, rfl, rfl, h1, h2, rfl, ?_⟩
  have : recsOf (⟨i, o, v, f.e, stIn (getD' 0 B i) (recsOf H) f.e f.s o, s1⟩ :: H) = ⟨i, f.s.n, s1.n, readsOf f.e o⟩ :: recsOf H := by
    simp [recsOf, Step.row, stIn_n]
  rw [this]
  exact h
theorem mono_seq (hc : MonoCall call) : ∀ (l : List Nat) (recs : List Rec) (f f1 : Fr), evSeq P call nt ops B l recs f = some f1 → Mono f.s f1.s
  | [], recs, f, f1, h => by simp only [evSeq, Option.some.injEq] at h; subst h; exact .refl _
  | i :: l, recs, f, f1, h => by
    simp only [evSeq] at h
    split at h
    · cases h
    · rename_i o ho
      replace h := Option.bind_eq_some_iff.1 h
      obtain ⟨⟨v, s1⟩, h1, h⟩ := h
      replace h := Option.bind_eq_some_iff.1 h
      obtain ⟨e1, h2, h⟩ := h
      have hm := mono_guarded hc h1
      have hn1 : f.s.n ≤ s1.n := by have := hm.1; rw [stIn_n] at this; exact this
      obtain ⟨q1, q2, q3⟩ := mono_seq hc l _ _ f1 h
      have q1 : s1.n ≤ f1.s.n := by rw [stOut_n] at q1; exact q1
      refine ⟨by omega, fun hO => ?_, fun hw => q3 (stOut_wf hw (hm.2.2 (stIn_wf hw)) hn1)⟩
      have := q2 hO
      rw [stOut_O] at this
      have := hm.2.1 this
      rw [stIn_O] at this
      exact this

/-- One that is free is walked, though it has not come up. -/
theorem cond_adv (hT : okTmps ops.toList B = true) (hc : MonoCall call) (hw : WFn f0.s) {i : Nat} {l : List Nat} {H : List Step} {f : Fr} {listed : Array Bool} {r : Ren} {a : Act} {w : World} {o : Oper} (C : Cond P call nt ops B f0 f' r0 w0 (i :: l) H f listed r a w)
    (ho : ops[i]? = some o) (hfree : freeOp o = true) : ∃ H1 f1, Cond P call nt ops B f0 f' r0 w0 l H1 f1 listed r a w := by
  obtain ⟨o', ho', hni, hed, _, hord⟩ := ord_cons C.ord
  rw [ho] at ho'
  cases ho'
  obtain ⟨x, f1, rfl, rfl, e1, e2, e3, e4, e5, e6⟩ := seq_cons ho C.seq
  have hist1 : Hist P call nt ops B f0 (x :: H) f1 := by
    refine ⟨f, C.hist, e1, e2, e3, e4, e5, ho, fun y hy e => hni (by rw [← e]; exact List.mem_map_of_mem hy), fun j hj => ?_, fun y hy hf => C.after y hy hf _ (List.mem_cons_self ..)⟩
    obtain ⟨y, hy, e⟩ := List.mem_map.1 (hed j hj)
    exact ⟨y, hy, e⟩
  obtain ⟨w1, n1, _, hin⟩ := hist_n hc hw H f C.hist
  obtain ⟨w1', _, _, hin'⟩ := hist_n hc hw (x :: H) f1 hist1
  have hxn : x.sin.n = f.s.n := by rw [e2, stIn_n]
  have hfn : f1.s.n = x.sout.n := by rw [e5, stOut_n]
  have hle := (hin' x (List.mem_cons_self ..)).2.1
  have hms := mono_seq hc l _ _ _ e6
  have hun : done listed x.i = false := C.unl _ (List.mem_cons_self ..)
  have hmiss : ∀ g, missing listed (x :: H) g = true ↔ missing listed H g = true ∨ (x.sin.n ≤ g ∧ g < x.sout.n) := by
    intro g
    rw [missing_iff, missing_iff]
    constructor
    · rintro ⟨y, hy, q⟩
      rcases List.mem_cons.1 hy with rfl | hy
      · exact .inr q.2
      · exact .inl ⟨y, hy, q⟩
    · rintro (⟨y, hy, q⟩ | q)
      · exact ⟨y, List.mem_cons_of_mem _ hy, q⟩
      · exact ⟨x, List.mem_cons_self .., hun, q⟩
  have hmf : ∀ g, missing listed (x :: H) g = false ↔ missing listed H g = false ∧ ¬ (x.sin.n ≤ g ∧ g < x.sout.n) := by
    intro g
    have := hmiss g
    cases h1 : missing listed (x :: H) g <;> cases h2 : missing listed H g <;> simp [h1, h2] at this ⊢
    · omega
    · exact this
  have hlk : ∀ g k, look (cut listed (x :: H) f1.s).h g = some k ↔ look (cut listed H f.s).h g = some k := by
    intro g k
    rw [cut_look, cut_look, hmf]
    rcases Nat.lt_or_ge g f.s.n with hg | hg
    · rw [e5, stOut_old hg, if_pos (.inl hfree)]
      constructor
      · rintro ⟨⟨q, _⟩, q2⟩; exact ⟨q, q2⟩
      · rintro ⟨q, q2⟩; exact ⟨⟨q, by omega⟩, q2⟩
    · constructor
      · rintro ⟨⟨_, q⟩, q2⟩
        have := w1'.1 g k q2
        omega
      · rintro ⟨_, q2⟩
        have := w1.1 g k q2
        omega
  have hlo : ∀ y, y ∈ (cut listed (x :: H) f1.s).lo → y ∈ (cut listed H f.s).lo := by
    intro y hy
    rw [cut_lo, hmf] at hy
    rw [cut_lo]
    obtain ⟨q1, q2, q3⟩ := hy
    refine ⟨?_, q2⟩
    have := w1'.2 y q1
    rw [e5] at q1
    rcases stOut_lo.1 q1 with q | q
    · omega
    · exact q
  refine ⟨x :: H, f1, hist1, e6, hord, fun j hj => ?_, C.size, fun j hj => C.unl j (List.mem_cons_of_mem _ hj), fun y hy hf => ?_, fun y hy hf j hj => ?_, C.closed, ?_, C.sz, C.def_, fun t => ?_, C.fr.sub (by omega) (Nat.le_refl _), fun y hy hd => ?_⟩
  · rcases C.cover j hj with h | ⟨y, hy, e⟩
    · rcases List.mem_cons.1 h with rfl | h
      · exact .inr ⟨x, List.mem_cons_self .., rfl⟩
      · exact .inl h
    · exact .inr ⟨y, List.mem_cons_of_mem _ hy, e⟩
  · rcases List.mem_cons.1 hy with rfl | hy
    · rw [hfree] at hf; cases hf
    · exact C.chain y hy hf
  · rcases List.mem_cons.1 hy with rfl | hy
    · rw [hfree] at hf; cases hf
    · exact C.after y hy hf j (List.mem_cons_of_mem _ hj)
  · have T := C.to
    have hcn : (cut listed (x :: H) f1.s).n = f1.s.n := rfl
    have hcn' : (cut listed H f.s).n = f.s.n := rfl
    refine ⟨T.ext, fun g hg => ?_, by rw [hcn]; omega, T.good0, T.good.sub (fun g k hk => ⟨k, (hlk g k).1 hk, rfl, rfl⟩) hlo, T.os, T.tape, T.output, T.size, T.frame, fun g k hk => T.own g k ((hlk g k).1 hk)⟩
    rcases T.dom g hg with q | q
    · exact .inl q
    · rw [hcn'] at q; rw [hcn]; exact .inr ⟨q.1, by omega⟩
  · have he : envD listed (x :: H) f0.e t = envD listed H f0.e t := by
      unfold envD
      rw [List.find?_cons]
      cases hb : (x.o.dst == some t)
      · rfl
      · simp only [hun, cond_false]
        cases hfd : H.find? (fun x => x.o.dst == some t) with
        | none => rfl
        | some y =>
          obtain ⟨hy, hyd⟩ := find_mem hfd
          have hxd : x.o.dst = some t := by simpa using hb
          have := hist_dst hT hist1 (List.mem_cons_self ..) (List.mem_cons_of_mem _ hy) hxd hyd
          exact absurd (by rw [this]; exact List.mem_map_of_mem hy) hni
    rw [he]; exact C.env t
  · rcases List.mem_cons.1 hy with rfl | hy
    · refine C.fr.sub (by omega) ?_
      have := hms.1; omega
    · exact C.frm y hy hd

theorem done_set {listed : Array Bool} {i j : Nat} (hi : i < listed.size) : done (listed.setIfInBounds i true) j = if j = i then true else done listed j := by
  unfold done
  rw [Array.getD_eq_getD_getElem?, Array.getElem?_setIfInBounds, Array.getD_eq_getD_getElem?]
  by_cases h : i = j
  · subst h; simp [hi]
  · simp [h, Ne.symm h]
theorem ready_spec {listed : Array Bool} {i : Nat} (h : i ∈ Region.ready .any ops listed) (hs : listed.size = ops.size) :
    i < ops.size ∧ done listed i = false ∧ ∃ o, ops[i]? = some o ∧ ∀ j ∈ edges o, done listed j = true := by
  obtain ⟨h1, o, ho, h2⟩ := mem_ready.1 h
  have hlt := (Array.getElem?_eq_some_iff.1 ho).1
  refine ⟨hlt, ?_, o, ho, fun j hj => ?_⟩
  · unfold done
    rw [Array.getD_eq_getD_getElem?, Array.getElem?_eq_getElem (by omega)] at h1 ⊢
    exact h1
  · unfold edges at hj
    obtain ⟨e, he, rfl⟩ := List.mem_map.1 hj
    rw [List.mem_filter] at he
    exact h2 e (by simpa using he.1) he.2
/-- Behind any that comes up all is as before. -/
theorem cond_put {a : Act} {r r' : Ren} {nt : Nat} {dst : Option Tmp} {v : Value} (hd : ∀ d, dst = some d → d < nt) (hs : a.tmps.size = nt) (he : Ext r r') (hv : bnd r'.d v = true) (E E' : Tmp → Value)
    (hE : ∀ t : Tmp, a.tmps.getD t undef = r.val (E t) ∧ bnd r.d (E t) = true) (h1 : ∀ t, dst = some t → E' t = v) (h2 : ∀ t, dst ≠ some t → E' t = E t) :
    ∀ t : Tmp, (a.put dst (r'.val v)).tmps.getD t undef = r'.val (E' t) ∧ bnd r'.d (E' t) = true := by
  intro t
  by_cases h : dst = some t
  · rw [h1 t h]
    subst h
    refine ⟨?_, hv⟩
    simp only [Act.put, Array.getD_eq_getD_getElem?]
    rw [Array.getElem?_setIfInBounds_self_of_lt (by rw [hs]; exact hd t rfl)]
    rfl
  · rw [h2 t h, val_ext he _ (hE t).2]
    refine ⟨?_, bnd_mono he.d _ (hE t).2⟩
    rw [← (hE t).1]
    cases dst with
    | none => rfl
    | some d =>
      have hne : d ≠ t := fun e => h (by rw [e])
      simp only [Act.put, Array.getD_eq_getD_getElem?]
      rw [Array.getElem?_setIfInBounds_ne hne]
theorem put_lt {e e1 : Env} {dst : Option Tmp} {v : Value} (h : putO nt e dst v = some e1) : ∀ d, dst = some d → d < nt := by
  intro d hd
  subst hd
  unfold putO at h
  have := (bif_some h).1
  simpa using this
theorem hist_put : ∀ (H : List Step) (f : Fr), Hist P call nt ops B f0 H f → ∀ x ∈ H, xguarded P call ops x.e x.sin x.o = some (x.v, x.sout) ∧ ∀ d, x.o.dst = some d → d < nt
  | [], _, _, x, hx => nomatch hx
  | y :: H, f, h, x, hx => by
    obtain ⟨fp, h1, _, _, h4, h5, _⟩ := h
    rcases List.mem_cons.1 hx with rfl | hx
    · exact ⟨h4, put_lt h5⟩
    · exact hist_put H fp h1 x hx
theorem find_split {H1 H2 : List Step} {x : Step} {t : Tmp} (hn1 : ∀ y ∈ H1, y.o.dst ≠ some t) (hx : x.o.dst ≠ some t) : (H1 ++ x :: H2).find? (fun x => x.o.dst == some t) = H2.find? (fun x => x.o.dst == some t) := by
  rw [List.find?_append, List.find?_eq_none.2 (fun y hy => by simpa using hn1 y hy), List.find?_cons]
  have : (x.o.dst == some t) = false := by simpa using hx
  rw [this]
  rfl
end
end Go.Proofs.Ytnnagaioiodniaa.Eng
