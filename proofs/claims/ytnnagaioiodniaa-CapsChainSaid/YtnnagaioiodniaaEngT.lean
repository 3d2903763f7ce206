/-
  The abstract machine: what it answers is so.
-/
import Derived.Test.YtnnagaioiodniaaEngS
namespace Go.Proofs.Ytnnagaioiodniaa.Eng
open Go.RowKit

section
variable {P : Program} {call : CallK} {nt : Nat} {ops : Array Oper} {B : List Nat} {f0 f' : Fr} {r0 : Ren} {w0 : World} {Q : Exit → Act → World → Prop}

def left (n : Nat) (listed : Array Bool) : Nat := (List.range n).countP fun i => !done listed i
theorem left_set {n i : Nat} {listed : Array Bool} (hi : i < n) (hs : listed.size = n) (hu : done listed i = false) : left n listed = left n (listed.setIfInBounds i true) + 1 := by
  unfold left
  have hset : ∀ j, done (listed.setIfInBounds i true) j = if j = i then true else done listed j := fun j => done_set (by omega)
  have key : ∀ (l : List Nat), l.Nodup → (i ∈ l → l.countP (fun j => !done listed j) = l.countP (fun j => !done (listed.setIfInBounds i true) j) + 1) ∧ (i ∉ l → l.countP (fun j => !done listed j) = l.countP (fun j => !done (listed.setIfInBounds i true) j)) := by
    intro l
    induction l with
    | nil => intro _; exact ⟨fun h => (by cases h), fun _ => rfl⟩
    | cons j l ih =>
      intro hnd
      rw [List.nodup_cons] at hnd
      obtain ⟨h1, h2⟩ := hnd
      obtain ⟨i1, i2⟩ := ih h2
      rw [List.countP_cons, List.countP_cons]
      by_cases hj : j = i
      · subst hj
        refine ⟨fun _ => ?_, fun h => absurd (List.mem_cons_self ..) h⟩
        rw [i2 h1, hset]
        simp [hu]
      · rw [hset, if_neg hj]
        refine ⟨fun h => ?_, fun h => ?_⟩
        · rcases List.mem_cons.1 h with e | h
          · exact absurd e.symm hj
          · rw [i1 h]; omega
        · rw [i2 fun hm => h (List.mem_cons_of_mem _ hm)]
  exact (key _ List.nodup_range).1 (List.mem_range.2 hi)
theorem left_zero {n : Nat} {listed : Array Bool} (h : left n listed = 0) : ∀ i, i < n → done listed i = true := by
  intro i hi
  unfold left at h
  rw [List.countP_eq_zero] at h
  have := h i (List.mem_range.2 hi)
  simpa using this
theorem run_any (hB : okBefores ops.toList B = true) (hT : okTmps ops.toList B = true) (hE : ∀ i o, ops[i]? = some o → ∀ j ∈ edges o, j < i) (hcall : SoundCall P call) (hw : WFn f0.s) (hO : f'.s.O)
    (hQ : ∀ r' a' w', To r0 f0.s w0 r' f'.s w' → Fits r' nt f'.e a' → Q .normal a' w') :
    ∀ (fuel : Nat) (m : Nat) (l : List Nat) (H : List Step) (f : Fr) (listed : Array Bool) (r : Ren) (a : Act) (w : World), l.length = m → left ops.size listed = fuel → Cond P call nt ops B f0 f' r0 w0 l H f listed r a w → wpAny P .any ops Q fuel listed a w := by
  have hc := hcall.mono
  intro fuel
  induction fuel with
  | zero =>
    intro m l H f listed r a w _ hl C
    have hall := left_zero hl
    have hl0 : l = [] := by
      cases hll : l with
      | nil => rfl
      | cons i l' =>
        obtain ⟨o, ho, _⟩ := ord_cons (hll ▸ C.ord)
        have := hall i (Array.getElem?_eq_some_iff.1 ho).1
        rw [C.unl i (by rw [hll]; exact List.mem_cons_self ..)] at this
        cases this
    subst hl0
    refine ⟨?_, ?_⟩
    · cases hr : Region.ready .any ops listed with
      | nil => rfl
      | cons i rs =>
        obtain ⟨q1, q2, _⟩ := ready_spec (i := i) (by rw [hr]; exact List.mem_cons_self ..) C.size
        rw [hall i q1] at q2; cases q2
    · have hs := C.seq
      simp only [evSeq, Option.some.injEq] at hs
      subst hs
      have hm : ∀ g, missing listed H g = false := by
        intro g
        cases hmm : missing listed H g
        · rfl
        · obtain ⟨x, hx, q, _⟩ := missing_iff.1 hmm
          rw [hall x.i (Array.getElem?_eq_some_iff.1 (hist_ops _ _ C.hist x hx).1).1] at q
          cases q
      refine hQ r a w (C.to.finish rfl (fun g k hk => cut_look.2 ⟨hm g, hk⟩) ?_) ⟨C.sz, C.def_, fun t => ?_⟩
      · unfold cut
        simp only [hm, Bool.not_false]
        exact (List.filter_eq_self.2 fun _ _ => rfl).symm
      · have h1 := C.env t
        have h2 := hist_env H _ C.hist t
        have : envD listed H f0.e t = getE f.e t := by
          rw [h2]
          unfold envD
          cases hfd : H.find? (fun x => x.o.dst == some t) with
          | none => rfl
          | some y =>
            simp only []
            rw [hall y.i (Array.getElem?_eq_some_iff.1 (hist_ops _ _ C.hist y (find_mem hfd).1).1).1]
            rfl
        unfold Tm
        rw [← this]
        exact h1
  | succ fuel ih =>
    have core : ∀ (l : List Nat) (H : List Step) (f : Fr) (listed : Array Bool) (r : Ren) (a : Act) (w : World), left ops.size listed = fuel + 1 → Cond P call nt ops B f0 f' r0 w0 l H f listed r a w →
        (∀ c l' o, l = c :: l' → ops[c]? = some o → freeOp o = false) → wpAny P .any ops Q (fuel + 1) listed a w := by
      intro l H f listed r a w hl C hhead
      refine ⟨fun hr => ?_, fun i hi => ?_⟩
      · exfalso
        -- the least that has not come up may come up
        have hex : ∀ n, ∀ i, i = n → i < ops.size → done listed i = false → False := by
          intro n
          induction n using Nat.strongRecOn with
          | _ n ihn =>
            intro i hin hi hd
            subst hin
            have ho : ops[i]? = some ops[i] := by simp [hi]
            by_cases hall : ∀ j ∈ edges ops[i], done listed j = true
            · have : i ∈ Region.ready .any ops listed := by
                rw [mem_ready]
                refine ⟨?_, ops[i], ho, fun e he hb => ?_⟩
                · have : i < listed.size := by rw [C.size]; exact hi
                  unfold done at hd
                  rw [Array.getD_eq_getD_getElem?, Array.getElem?_eq_getElem this] at hd ⊢
                  exact hd
                · exact hall e.on (by unfold edges; exact List.mem_map.2 ⟨e, List.mem_filter.2 ⟨by simpa using he, hb⟩, rfl⟩)
              rw [hr] at this; cases this
            · have : ∃ j ∈ edges ops[i], done listed j = false := by
                refine Classical.byContradiction fun hn => hall fun j hj => ?_
                cases hdj : done listed j
                · exact absurd ⟨j, hj, hdj⟩ hn
                · rfl
              obtain ⟨j, hj, hdj⟩ := this
              have hlt := hE i _ ho j hj
              exact ihn j hlt j rfl (by omega) hdj
        have : ∃ i, i < ops.size ∧ done listed i = false := by
          refine Classical.byContradiction fun hn => ?_
          have hz : left ops.size listed = 0 := by
            unfold left
            rw [List.countP_eq_zero]
            intro i hi
            cases hdi : done listed i
            · exact absurd ⟨i, List.mem_range.1 hi, hdi⟩ hn
            · simp
          omega
        obtain ⟨i, h1, h2⟩ := this
        exact hex i i rfl h1 h2
      · obtain ⟨q1, q2, o, ho, he⟩ := ready_spec hi C.size
        have hls := left_set q1 C.size q2
        have hmem : (∃ x ∈ H, x.i = i) ∨ ∃ l', l = i :: l' := by
          rcases C.cover i q1 with h | h
          · cases l with
            | nil => cases h
            | cons c l' =>
              rcases List.mem_cons.1 h with rfl | h
              · exact .inr ⟨l', rfl⟩
              · exfalso
                obtain ⟨oc, hoc, _, _, h3, _⟩ := ord_cons C.ord
                have hch := hhead c l' oc rfl hoc
                rcases h3 with h3 | h3
                · rw [hch] at h3; cases h3
                · have := bits_done hB C.closed ho he (Array.getElem?_eq_some_iff.1 hoc).1 (h3 i h)
                  rw [C.unl c (List.mem_cons_self ..)] at this
                  cases this
          · exact .inl h
        rcases hmem with ⟨x, hx, rfl⟩ | ⟨l', rfl⟩
        · have hxo := (hist_ops _ _ C.hist x hx).1
          rw [ho] at hxo
          cases hxo
          have hil : x.i ∉ l := fun hm => by
            have hord := C.ord
            have : ∀ (l : List Nat) (dn : List Nat), okSched ops.toList B l dn = true → ∀ i ∈ dn, i ∉ l := by
              intro l
              induction l with
              | nil => intro dn _ i _ h; cases h
              | cons j l ih =>
                intro dn h i hi hm
                obtain ⟨_, _, q1, _, _, q2⟩ := ord_cons h
                rcases List.mem_cons.1 hm with rfl | hm
                · exact q1 hi
                · exact ih _ q2 i (List.mem_cons_of_mem _ hi) hm
            exact this l _ hord x.i (List.mem_map_of_mem hx) hm
          obtain ⟨k1, k2, k3⟩ := cond_free hB hT hc hw C hx q2 he hil
          obtain ⟨wf, _, _, hin⟩ := hist_n hc hw _ f C.hist
          have hms := mono_seq hc l _ _ _ C.seq
          refine (xguarded_ok ho (hist_put _ f C.hist x hx).1 ((hin x hx).2.2.2.1 (hms.2.1 hO)) k1 (hin x hx).2.2.2.2.1 k2 (C.frm x hx q2) hcall ?_).2
          intro r' w' T hb
          exact ih _ l H f _ r' _ w' rfl (by omega) (k3 r' w' T hb)
        · have hch := hhead i l' o rfl ho
          obtain ⟨x, f1, rfl, rfl, k0, k1, k2, kw, k3, k4, k5⟩ := cond_chain hB hT hc hw C ho hch he
          refine (xguarded_ok ho k0 (k1 hO) k2 kw k3 k4 hcall ?_).2
          intro r' w' T hb
          exact ih _ l' (x :: H) f1 _ r' _ w' rfl (by omega) (k5 r' w' T hb)
    intro m
    induction m with
    | zero =>
      intro l H f listed r a w hlen hl C
      have hl0 : l = [] := List.eq_nil_of_length_eq_zero hlen
      subst hl0
      exact core [] H f listed r a w hl C fun c l' o h => by cases h
    | succ m ihm =>
      intro l H f listed r a w hlen hl C
      cases l with
      | nil => cases hlen
      | cons c l' =>
        obtain ⟨o, ho, _⟩ := ord_cons C.ord
        cases hf : freeOp o
        · refine core _ H f listed r a w hl C fun c' l2 o' h ho' => ?_
          cases h
          rw [ho] at ho'
          cases ho'
          exact hf
        · obtain ⟨H1, f1, C1⟩ := cond_adv hT hc hw C ho hf
          exact ihm l' H1 f1 listed r a w (by simpa using hlen) hl C1

theorem okRegion_spec (h : okRegion ops.toList = true) :
    (∀ i o, ops[i]? = some o → ∀ j ∈ edges o, j < i) ∧ (∀ i, i < ops.size → i ∈ sched ops.toList ops.toList.length []) ∧ okBefores ops.toList (befores ops.toList) = true ∧ okTmps ops.toList (befores ops.toList) = true ∧
    okSched ops.toList (befores ops.toList) (sched ops.toList ops.toList.length []) [] = true := by
  unfold okRegion at h
  simp only [Bool.and_eq_true] at h
  obtain ⟨⟨⟨⟨⟨h1, h2⟩, _⟩, h3⟩, h4⟩, h5⟩ := h
  refine ⟨fun i o hi j hj => ?_, fun i hi => ?_, h3, h4, h5⟩
  · have hm : (o, i) ∈ ops.toList.zipIdx := by
      rw [List.mem_zipIdx_iff_getElem?]
      rw [Array.getElem?_toList]; exact hi
    have := List.all_eq_true.1 (List.all_eq_true.1 h1 _ hm) j hj
    simpa using this
  · have := List.all_eq_true.1 h2 i (by rw [List.mem_range, Array.length_toList]; exact hi)
    exact memN_iff.1 this
theorem To.drew {r : Ren} {s : St} {w : World} (hg : Good r s w) : To r s w r s { w with drawn := w.drawn + 1 } :=
  ⟨Ext.refl _, fun _ h => .inl h, Nat.le_refl _, hg, hg.heap rfl, rfl, rfl, rfl, Nat.le_refl _, fun _ _ _ => rfl, fun _ k hk => .inl ⟨k, hk, id⟩⟩
end

theorem draw_ok {P : Program} {call : CallK} (hcall : SoundCall P call) : DrawOk P call := by
  intro nt id ops f f' h
  unfold evDraw at h
  obtain ⟨hok, h⟩ := bif_some h
  rw [Bool.and_eq_true] at hok
  obtain ⟨hE, hcov, hB, hT, hS⟩ := okRegion_spec hok.1
  refine ⟨mono_seq hcall.mono _ _ _ _ h, fun hO r a w Q hf hwf hg hfr hQ => ?_⟩
  refine wp_region_any hok.2 ?_
  have hsz : (Array.replicate ops.size false).size = ops.size := by simp
  have hd : ∀ i, done (Array.replicate ops.size false) i = false := by
    intro i
    unfold done
    rw [Array.getD_eq_getD_getElem?, Array.getElem?_replicate]
    split <;> rfl
  have hm : ∀ g, missing (Array.replicate ops.size false) [] g = false := fun g => rfl
  refine run_any (f0 := f) (f' := f') (r0 := r) (w0 := w) hB hT hE hcall hwf hO hQ ops.size _ (sched ops.toList ops.toList.length []) [] f (Array.replicate ops.size false) r a _ rfl ?_ ?_
  · unfold left
    rw [List.countP_eq_length.2 (fun i _ => by simp [hd])]
    simp
  · refine ⟨rfl, h, hS, fun i hi => .inl (hcov i hi), hsz, fun i _ => hd i, fun x hx => (by cases hx), fun x hx => (by cases hx), fun i o _ h => ?_, ?_, hf.size, hf.defers, fun t => ?_, hfr, fun x hx => (by cases hx)⟩
    · rw [hd] at h; cases h
    · refine (To.drew hg).finish rfl (fun g k hk => (cut_look.1 hk).2) ?_
      unfold cut
      simp only [hm, Bool.not_false]
      exact List.filter_eq_self.2 fun _ _ => rfl
    · exact hf.tmps t

/-- WHAT THE MACHINE ANSWERS IS SO. -/
theorem run_ok {P : Program} {base : CallK} {L : Nat} (hn : namesOk P = true) (hbase : SoundCall P base) (k : Nat) : SoundCall P (evF P base L k) :=
  evF_ok hn hbase (fun _ h => draw_ok h) k
def noBase : CallK := fun _ _ _ => none
theorem noBase_ok (P : Program) : SoundCall P noBase := fun _ _ _ _ _ h => by cases h
def st0 : St := ⟨0, [], [], 0, [], 0, True⟩
def ren0 : Ren := ⟨fun _ => 0, fun _ => 0, fun _ => 0, fun _ => false⟩
theorem wf0 : WFn st0 := ⟨fun g k h => (by cases h), fun x h => (by cases h)⟩
theorem good0 (r : Ren) (w : World) : Good r st0 w := ⟨fun g k h => (by cases h), fun g g' k k' h => (by cases h), fun g k h => (by cases h), fun x h => (by cases h)⟩
theorem To.below {r r' : Ren} {s s' : St} {w w' : World} (h : To r s w r' s' w') (hn : ∀ g k, look s.h g = some k → k.rw = false) : Below w.heap.size w w' :=
  ⟨h.os, h.tape, h.output, h.size, fun b hb => h.frame b hb fun g k hk hrw => by rw [hn g k hk] at hrw; cases hrw⟩
/-- What a call without letters answers: a value without letters. -/
def Says (v : Value) : Res → Prop
  | some (v', s) => v' = v ∧ s.O
  | none => False
def SaysTrue : Res → Prop
  | some (.bool true, s) => s.O
  | _ => False
theorem says_ok {P : Program} {call : CallK} (hcall : SoundCall P call) {f : FuncId} {args : List Value} {v : Value} (h : Says v (call f args st0)) (ha : ∀ u ∈ args, flat2 u = true) (hv : flat2 v = true) (w : World) :
    Calls P f args.toArray w fun e w' => e = .returned v ∧ Below w.heap.size w w' := by
  cases hc : call f args st0 with
  | none => rw [hc] at h; exact h.elim
  | some x =>
    obtain ⟨v', s'⟩ := x
    rw [hc] at h
    obtain ⟨rfl, hO⟩ := h
    obtain ⟨_, h2⟩ := hcall f args st0 _ s' hc
    have hm : args.map ren0.val = args := by
      rw [List.map_congr_left (g := id)]
      · simp
      · intro u hu; exact val_flat2 _ (ha u hu)
    have h3 := (h2 hO).2 ren0 w wf0 (good0 _ _) (fun _ _ _ => rfl) fun u hu => bnd_flat2 _ (ha u hu)
    rw [hm] at h3
    refine h3.mono ?_
    rintro e w' ⟨r', rfl, h4, _⟩
    exact ⟨by rw [val_flat2 _ hv], h4.below fun g k hk => by cases hk⟩
theorem true_ok {P : Program} {call : CallK} (hcall : SoundCall P call) {f : FuncId} {args : List Value} (h : SaysTrue (call f args st0)) (ha : ∀ u ∈ args, flat2 u = true) (w : World) :
    Calls P f args.toArray w fun e w' => e = .returned (.bool true) ∧ Below w.heap.size w w' := by
  refine says_ok hcall (v := .bool true) ?_ ha rfl w
  cases hc : call f args st0 with
  | none => rw [hc] at h; exact h.elim
  | some x =>
    obtain ⟨v, s⟩ := x
    rw [hc] at h
    cases v with
    | bool b =>
      cases b
      · exact h.elim
      · exact ⟨rfl, h⟩
    | _ => exact h.elim
/-- A closed statement's run: one word for it. -/
def Run (P : Program) (L k : Nat) (f : FuncId) : Prop := SaysTrue (evF P noBase L k f [] st0)
theorem run_calls {P : Program} {L k : Nat} {f : FuncId} (hn : namesOk P = true) (h : Run P L k f = True) (w : World) :
    Calls P f #[] w fun e w' => e = .returned (.bool true) ∧ Below w.heap.size w w' :=
  true_ok (run_ok (L := L) hn (noBase_ok P) k) (of_eq_true h) (fun u hu => by cases hu) w

end Go.Proofs.Ytnnagaioiodniaa.Eng
