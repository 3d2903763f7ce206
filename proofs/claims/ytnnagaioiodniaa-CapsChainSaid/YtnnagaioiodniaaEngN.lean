/-
  The abstract machine: code, functions.
-/
import Derived.Test.YtnnagaioiodniaaEngL
namespace Go.Proofs.Ytnnagaioiodniaa.Eng
open Go.RowKit

/-- What a region that draws its order must be shown to do. -/
def DrawOk (P : Program) (call : CallK) : Prop := ∀ (nt id : Nat) (ops : Array Oper) (f f' : Fr), evDraw P call nt ops f = some f' → Mono f.s f'.s ∧ (f'.s.O → ∀ (r : Ren) (a : Act) (w : World) (Q : Exit → Act → World → Prop),
  Fits r nt f.e a → WFn f.s → Good r f.s w → Fresh r f.s.n f'.s.n → (∀ r' a' w', To r f.s w r' f'.s w' → Fits r' nt f'.e a' → Q .normal a' w') → (Code.region id ops true).wp P Q a w)

theorem look_filter (p : Nat → Bool) : ∀ (h : Heap) (g : Nat), look (h.filter fun x => p x.1) g = if p g = true then look h g else none
  | [], g => by simp [look]
  | x :: h, g => by
    rw [List.filter_cons]
    cases hp : p x.1
    · simp only [Bool.false_eq_true, if_false]
      rw [look_filter p h g, look_cons]
      by_cases hg : g = x.1
      · subst hg; simp [hp]
      · simp [hg]
    · simp only [if_true]
      rw [look_cons, look_cons, look_filter p h g]
      by_cases hg : g = x.1
      · subst hg; simp [hp]
      · simp [hg]

section
variable {P : Program} {r : Ren} {s s' : St} {w : World} {e : Env} {a : Act} {Q : Exit → Act → World → Prop}
/-- Less is known. -/
theorem Good.sub (h : Good r s w) (hh : ∀ g k, look s'.h g = some k → ∃ k', look s.h g = some k' ∧ k.op = k'.op ∧ k.cells = k'.cells) (hl : ∀ x ∈ s'.lo, x ∈ s.lo) : Good r s' w := by
  refine ⟨fun g k hk => ?_, fun g g' k k' h1 h2 h3 => ?_, fun g k hk => ?_, fun x hx => h.lo x (hl x hx)⟩
  · obtain ⟨k', h1, h2, h3⟩ := hh g k hk
    obtain ⟨arr, ty, fr, g1, g2, g3⟩ := h.is g k' h1
    refine ⟨arr, ty, fr, g1, ?_, ?_⟩
    · rw [h2, h3]; exact g2
    · rw [h3]; exact g3
  · obtain ⟨_, h4, _⟩ := hh g k h1
    obtain ⟨_, h5, _⟩ := hh g' k' h2
    exact h.inj _ _ _ _ h4 h5 h3
  · obtain ⟨k', h1, h2, h3⟩ := hh g k hk
    obtain ⟨g1, g2, g3⟩ := h.lt g k' h1
    refine ⟨g1, ?_, ?_⟩
    · rw [h2]; exact g2
    · rw [h3]; exact g3
theorem To.start {s1 : St} {r' : Ren} {w' : World} (h : To r s1 w r' s' w') (hn : s1.n = s.n) (hh : s1.h = s.h) (hl : s1.lo = s.lo) : To r s w r' s' w' :=
  ⟨h.ext, by rw [← hn]; exact h.dom, by rw [← hn]; exact h.le, h.good0.same hh.symm hl.symm, h.good, h.os, h.tape, h.output, h.size, by rw [← hh]; exact h.frame, by rw [← hh]; exact h.own⟩
theorem To.finish {s1 : St} {r' : Ren} {w' : World} (h : To r s w r' s' w') (hn : s1.n = s'.n) (hh : ∀ g k, look s1.h g = some k → look s'.h g = some k) (hl : s1.lo = s'.lo) : To r s w r' s1 w' :=
  ⟨h.ext, by rw [hn]; exact h.dom, by rw [hn]; exact h.le, h.good0, h.good.sub (fun g k hk => ⟨k, hh g k hk, rfl, rfl⟩) (by rw [hl]; exact fun _ h => h), h.os, h.tape, h.output, h.size, h.frame, fun g k hk => h.own g k (hh g k hk)⟩
theorem leave_n (s s' : St) (v : Value) : (leave s s' v).n = s'.n := by unfold leave; cases (flat2 v && Nat.ble s.n s'.esc) <;> rfl
theorem leave_O (s s' : St) (v : Value) : (leave s s' v).O = s'.O := by unfold leave; cases (flat2 v && Nat.ble s.n s'.esc) <;> rfl
theorem leave_lo (s s' : St) (v : Value) : (leave s s' v).lo = s'.lo := by unfold leave; cases (flat2 v && Nat.ble s.n s'.esc) <;> rfl
theorem leave_h (s s' : St) (v : Value) (g : Nat) (k : Blk) (h : look (leave s s' v).h g = some k) : look s'.h g = some k := by
  unfold leave at h
  cases hb : (flat2 v && Nat.ble s.n s'.esc)
  · rw [hb] at h; exact h
  · rw [hb] at h
    simp only [cond_true, dropNew] at h
    rw [look_filter (fun x => Nat.blt x s.n)] at h
    split at h
    · exact h
    · cases h

theorem mono_C {call : CallK} {nt : Nat} (hcall : SoundCall P call) (hdraw : DrawOk P call) : ∀ (k : Nat) (c : Code) (f f' : Fr) (x : Exit), evC P call nt k c f = some (x, f') → Mono f.s f'.s
  | 0, c, f, f', x, h => by simp [evC] at h
  | k + 1, c, f, f', x, h => by
    cases c <;> simp only [evC] at h
    case skip => simp only [Option.some.injEq, Prod.mk.injEq] at h; rw [← h.2]; exact .refl _
    case label l => simp only [Option.some.injEq, Prod.mk.injEq] at h; rw [← h.2]; exact .refl _
    case exit id => simp only [Option.some.injEq, Prod.mk.injEq] at h; rw [← h.2]; exact .refl _
    case ret => simp only [Option.some.injEq, Prod.mk.injEq] at h; rw [← h.2]; exact .refl _
    case region id ops draw =>
      obtain ⟨f1, h1, h⟩ := Option.map_eq_some_iff.1 h
      simp only [Prod.mk.injEq] at h
      obtain ⟨rfl, rfl⟩ := h
      cases draw
      · exact mono_ops hcall.mono _ _ _ h1
      · exact (hdraw nt id ops f f1 h1).1
    case seq c1 c2 =>
      split at h
      · rename_i f1 h1
        exact (mono_C hcall hdraw k c1 f f1 .normal h1).trans (mono_C hcall hdraw k c2 f1 f' x h)
      · exact mono_C hcall hdraw k c1 f f' x h
    case cond o c1 c2 =>
      split at h
      · rename_i t _
        exact (Mono.test t f.s).trans (mono_C hcall hdraw k _ _ f' x h)
      · cases h
    case block id c1 =>
      split at h
      · rename_i i f1 h1
        have := mono_C hcall hdraw k c1 f f1 _ h1
        cases hb : Nat.beq i id <;> rw [hb] at h <;> simp only [cond_true, cond_false, Option.some.injEq, Prod.mk.injEq] at h <;> rw [← h.2] <;> exact this
      · exact mono_C hcall hdraw k c1 f f' x h
    case loop c1 =>
      split at h
      · rename_i f1 h1
        exact (mono_C hcall hdraw k c1 f f1 .normal h1).trans (mono_C hcall hdraw k (.loop c1) f1 f' x h)
      · exact mono_C hcall hdraw k c1 f f' x h
    all_goals cases h

theorem evC_ok {call : CallK} {nt : Nat} (hcall : SoundCall P call) (hdraw : DrawOk P call) : ∀ (k : Nat) (c : Code) (f f' : Fr) (x : Exit), evC P call nt k c f = some (x, f') → f'.s.O →
    ∀ (r : Ren) (a : Act) (w : World) (Q : Exit → Act → World → Prop), Fits r nt f.e a → WFn f.s → Good r f.s w → Fresh r f.s.n f'.s.n → (∀ r' a' w', To r f.s w r' f'.s w' → Fits r' nt f'.e a' → Q x a' w') →
    c.wp P Q a w ∧ ∀ c1, c = .loop c1 → Code.rounds P c1 Q k a w
  | 0, c, f, f', x, h, _, r, a, w, Q, _, _, _, _, _ => by simp [evC] at h
  | k + 1, c, f, f', x, h, hO, r, a, w, Q, hf, hwf, hg, hfr, hQ => by
    cases c <;> simp only [evC] at h
    case skip =>
      simp only [Option.some.injEq, Prod.mk.injEq] at h
      obtain ⟨rfl, rfl⟩ := h
      exact ⟨wp_skip (hQ r a w (To.refl hg) hf), fun c1 h => by cases h⟩
    case label l =>
      simp only [Option.some.injEq, Prod.mk.injEq] at h
      obtain ⟨rfl, rfl⟩ := h
      exact ⟨wp_label (hQ r a w (To.refl hg) hf), fun c1 h => by cases h⟩
    case exit id =>
      simp only [Option.some.injEq, Prod.mk.injEq] at h
      obtain ⟨rfl, rfl⟩ := h
      exact ⟨wp_exit (hQ r a w (To.refl hg) hf), fun c1 h => by cases h⟩
    case ret =>
      simp only [Option.some.injEq, Prod.mk.injEq] at h
      obtain ⟨rfl, rfl⟩ := h
      exact ⟨wp_ret (hQ r a w (To.refl hg) hf), fun c1 h => by cases h⟩
    case region id ops draw =>
      obtain ⟨f1, h1, h⟩ := Option.map_eq_some_iff.1 h
      simp only [Prod.mk.injEq] at h
      obtain ⟨rfl, rfl⟩ := h
      refine ⟨?_, fun c1 h => by cases h⟩
      cases draw
      · refine wp_region ?_
        have := evOps_ok (Q := Q) hcall ops.toList 0 f f1 r a w h1 hO rfl hf hwf hg hfr hQ
        rw [List.range_eq_range']
        simpa using this
      · exact (hdraw nt id ops f f1 h1).2 hO r a w Q hf hwf hg hfr hQ
    case seq c1 c2 =>
      refine ⟨?_, fun c1 h => by cases h⟩
      split at h
      · rename_i f1 h1
        have hm := mono_C hcall hdraw k c2 f1 f' x h
        have hm1 := mono_C hcall hdraw k c1 f f1 _ h1
        refine wp_seq (evC_ok hcall hdraw k c1 f f1 .normal h1 (hm.2.1 hO) r a w _ hf hwf hg (hfr.sub (Nat.le_refl _) hm.1) ?_).1
        intro r1 a1 w1 ht hf1
        exact (evC_ok hcall hdraw k c2 f1 f' x h hO r1 a1 w1 Q hf1 ((mono_C hcall hdraw k c1 f f1 _ h1).2.2 hwf) ht.good (ht.fresh hfr) fun r2 a2 w2 ht2 hf2 => hQ r2 a2 w2 (ht.trans ht2) hf2).1
      · rename_i hne
        refine wp_seq (evC_ok hcall hdraw k c1 f f' x h hO r a w _ hf hwf hg hfr ?_).1
        intro r1 a1 w1 ht hf1
        have := hQ r1 a1 w1 ht hf1
        cases x with
        | normal => exact absurd h (hne _)
        | _ => exact this
    case cond o c1 c2 =>
      refine ⟨?_, fun c1 h => by cases h⟩
      split at h
      · rename_i t ht
        have hm := mono_C hcall hdraw k _ _ f' x h
        have hO1 := hm.2.1 hO
        have hs := (sees_of (fun t _ => hf.tmps t) : Sees r f.e a o) _ ht
        rw [test_eq _ _ hO1] at h
        rw [val_bool] at hs
        refine wp_cond hs.1 ?_
        have := (evC_ok hcall hdraw k _ _ f' x h hO r a w Q hf ((Mono.test t f.s).2.2 hwf) (SameBut.good (.test t f.s) hg) (by rw [test_n]; exact hfr) (fun r2 a2 w2 h2 h3 => hQ r2 a2 w2 (h2.start (test_n _ _) (test_h _ _) (test_lo _ _)) h3)).1
        cases t <;> exact this
      · cases h
    case block id c1 =>
      refine ⟨?_, fun c1 h => by cases h⟩
      split at h
      · rename_i i f1 h1
        have hff : f1 = f' := by cases hb : Nat.beq i id <;> rw [hb] at h <;> simp only [cond_true, cond_false, Option.some.injEq, Prod.mk.injEq] at h <;> exact h.2
        subst hff
        refine wp_block (evC_ok hcall hdraw k c1 f f1 _ h1 hO r a w _ hf hwf hg hfr ?_).1
        intro r1 a1 w1 ht hf1
        have hq := hQ r1 a1 w1 ht hf1
        cases hb : Nat.beq i id
        · rw [hb] at h
          simp only [cond_false, Option.some.injEq, Prod.mk.injEq] at h
          rw [← h.1] at hq
          have hne : i ≠ id := fun e => by rw [e, Nat.beq_refl] at hb; cases hb
          simp only [Exit.inBlock, hne, if_false]
          exact hq
        · rw [hb] at h
          simp only [cond_true, Option.some.injEq, Prod.mk.injEq] at h
          rw [← h.1] at hq
          simp only [Exit.inBlock, Nat.eq_of_beq_eq_true hb, if_true]
          exact hq
      · rename_i hne
        refine wp_block (evC_ok hcall hdraw k c1 f f' x h hO r a w _ hf hwf hg hfr ?_).1
        intro r1 a1 w1 ht hf1
        have := hQ r1 a1 w1 ht hf1
        cases x with
        | exit i => exact absurd h (hne _ _)
        | _ => exact this
    case loop c1 =>
      have hr : Code.rounds P c1 Q (k + 1) a w := by
        rw [rounds_succ]
        split at h
        · rename_i f1 h1
          have hm := mono_C hcall hdraw k (.loop c1) f1 f' x h
          refine (evC_ok hcall hdraw k c1 f f1 .normal h1 (hm.2.1 hO) r a w _ hf hwf hg (hfr.sub (Nat.le_refl _) hm.1) ?_).1
          intro r1 a1 w1 ht hf1
          exact (evC_ok hcall hdraw k (.loop c1) f1 f' x h hO r1 a1 w1 Q hf1 ((mono_C hcall hdraw k c1 f f1 _ h1).2.2 hwf) ht.good (ht.fresh hfr) fun r2 a2 w2 ht2 hf2 => hQ r2 a2 w2 (ht.trans ht2) hf2).2 c1 rfl
        · rename_i hne
          refine (evC_ok hcall hdraw k c1 f f' x h hO r a w _ hf hwf hg hfr ?_).1
          intro r1 a1 w1 ht hf1
          have := hQ r1 a1 w1 ht hf1
          cases x with
          | normal => exact absurd h (hne _)
          | _ => exact this
      exact ⟨wp_loop_rounds _ hr, fun c2 h => by cases h; exact hr⟩
    all_goals cases h
end
end Go.Proofs.Ytnnagaioiodniaa.Eng
