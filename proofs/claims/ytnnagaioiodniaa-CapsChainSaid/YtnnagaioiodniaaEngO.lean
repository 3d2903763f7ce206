/-
  The abstract machine: functions.
-/
import Derived.Test.YtnnagaioiodniaaEngN
namespace Go.Proofs.Ytnnagaioiodniaa.Eng
open Go.RowKit

section
variable {P : Program} {r : Ren} {s s' : St} {w : World} {e : Env} {a : Act}
theorem getE_nil (t : Nat) : getE [] t = undef := by unfold getE; rw [getD_nil, getD_nil]
theorem getE_enter : ∀ (l : List Value) (k : Nat) (e : Env) (t : Nat), getE (enterE l k e) t = if k ≤ t ∧ t < k + l.length then l.getD (t - k) undef else getE e t
  | [], k, e, t => by rw [enterE, if_neg (by simp)]
  | v :: l, k, e, t => by
    rw [enterE, getE_enter l (k + 1) _ t, getE_putE]
    by_cases h : k + 1 ≤ t ∧ t < k + 1 + l.length
    · rw [if_pos h, if_pos (by simp only [List.length_cons]; omega), show t - k = (t - (k + 1)) + 1 by omega]
      simp
    · rw [if_neg h]
      by_cases h2 : t = k
      · subst h2
        rw [if_pos rfl, if_pos (by simp only [List.length_cons]; omega)]
        simp
      · rw [if_neg h2, if_neg (by simp only [List.length_cons]; omega)]
theorem fits_enter {args : List Value} {nt : Nat} (hl : args.length ≤ nt) (hb : ∀ u ∈ args, bnd r.d u = true) :
    Fits r nt (enterE args 0 []) { tmps := (args.map r.val).toArray ++ Array.replicate (nt - (args.map r.val).toArray.size) undef, defers := [] } := by
  refine ⟨by simp only [Array.size_append, List.size_toArray, List.length_map, Array.size_replicate]; omega, rfl, fun (t : Nat) => ?_⟩
  unfold Tm
  rw [getE_enter]
  by_cases h : 0 ≤ t ∧ t < 0 + args.length
  · rw [if_pos h]
    have hlt : t < args.length := by omega
    rw [Nat.sub_zero, List.getD_eq_getElem?_getD, List.getElem?_eq_getElem hlt, Option.getD_some]
    refine ⟨?_, hb _ (List.getElem_mem hlt)⟩
    rw [Array.getD_eq_getD_getElem?, Array.getElem?_append_left (by simpa using hlt)]
    simp [hlt]
  · rw [if_neg h, getE_nil]
    refine ⟨?_, bnd_undef _⟩
    rw [val_undef, Array.getD_eq_getD_getElem?, Array.getElem?_append_right (by rw [List.size_toArray, List.length_map]; omega)]
    simp only [Array.getElem?_replicate]
    split <;> rfl
theorem xresults_ok (hg : Good r s w) (hT : ∀ t, Tm r e a t) : ∀ (l : List ResultVar) (vs : List Value), xresults P e s l = some vs →
    (l.mapM fun x => match x with
      | .tmp t => pure (a.tmps.getD t undef)
      | .cell p t => do loadVar t (← asAddr (a.tmps.getD p undef)) : Sem (List Value)).run P w = .ok (vs.map r.val) w ∧ ∀ v ∈ vs, bnd r.d v = true
  | [], vs, h => by simp only [xresults, Option.some.injEq] at h; subst h; exact ⟨rfl, fun v hv => by cases hv⟩
  | .tmp t :: l, vs, h => by
    simp only [xresults] at h
    obtain ⟨vs', h1, rfl⟩ := Option.map_eq_some_iff.1 h
    obtain ⟨h2, h3⟩ := xresults_ok hg hT l vs' h1
    obtain ⟨h4, h5⟩ := hT t
    refine ⟨?_, fun v hv => ?_⟩
    · simp only [List.mapM_cons, Sem.run_bind, Sem.run_pure, Result.andThen_ok, h2, h4, List.map_cons]
    · rcases List.mem_cons.1 hv with rfl | hv
      · exact h5
      · exact h3 v hv
  | .cell p t :: l, vs, h => by
    simp only [xresults] at h
    split at h
    · rename_i ad hp
      replace h := Option.bind_eq_some_iff.1 h
      obtain ⟨v, hv, h⟩ := h
      obtain ⟨vs', h1, rfl⟩ := Option.map_eq_some_iff.1 h
      obtain ⟨h2, h3⟩ := xresults_ok hg hT l vs' h1
      obtain ⟨h4, h5⟩ := hT p
      obtain ⟨h6, h7⟩ := xloadVar_ok (P := P) hv hg
      rw [hp, val_ptr, Option.map_some] at h4
      refine ⟨?_, fun v hv => ?_⟩
      · have h8 : (asAddr (.pointer (some (r.addr ad)))).run P w = .ok (r.addr ad) w := rfl
        simp only [List.mapM_cons, Sem.run_bind, Sem.run_pure, Result.andThen_ok, h4, h8, h6, h2, List.map_cons]
      · rcases List.mem_cons.1 hv with rfl | hv
        · exact h7
        · exact h3 v hv
    · cases h
theorem results_ok (hg : Good r s w) (hT : ∀ t, Tm r e a t) {fn : Func} {vs : List Value} (h : xresults P e s fn.results.toList = some vs) :
    (results fn a.tmps).run P w = .ok (r.val (oneOr vs)) w ∧ bnd r.d (oneOr vs) = true := by
  obtain ⟨h1, h2⟩ := xresults_ok hg hT _ _ h
  have hr : (results fn a.tmps).run P w = .ok (if h : ((vs.map r.val).toArray).size = 1 then ((vs.map r.val).toArray)[0] else .tuple (vs.map r.val).toArray) w := by
    unfold results
    rw [Array.mapM_eq_mapM_toList]
    simp only [Sem.run_bind, Sem.run_map]
    have h1' : ∀ g : ResultVar → Sem Value, (∀ x, g x = match x with
      | .tmp t => pure (a.tmps.getD t undef)
      | .cell p t => do loadVar t (← asAddr (a.tmps.getD p undef))) → (fn.results.toList.mapM g).run P w = .ok (vs.map r.val) w := fun g hg => by
      rw [← h1]; congr 2; funext x; exact hg x
    rw [h1' _ (fun x => by cases x <;> rfl)]
    rfl
  rw [hr]
  match vs, h2 with
  | [], _ => exact ⟨by simp [oneOr, val_tuple], by simp [oneOr, bnd_tuple]⟩
  | [v], h2 => exact ⟨by simp [oneOr], by simpa [oneOr] using h2 v (by simp)⟩
  | v :: u :: l, h2 => exact ⟨by simp [oneOr, val_tuple], by
      simp only [oneOr]
      rw [bnd_tuple, Array.all_eq_true_iff_forall_mem]
      exact fun x hx => h2 x (by simpa using hx)⟩

/-- No function bears a name that is met otherwise. -/
def namesOk (P : Program) : Bool := P.funcs.all fun fn => !(fn.name == "runtime.NumGoroutine")
theorem enters_of {f : FuncId} {fn : Func} {c : Code} (hn : namesOk P = true) (hf : P.funcs[f]? = some fn) (hb : fn.body = some c) : Enters P f := by
  intro args w
  have h1 := Array.all_eq_true_iff_forall_mem.1 hn fn (Array.mem_of_getElem? hf)
  have h2 : (fn.name == "runtime.NumGoroutine") = false := by simpa using h1
  unfold callFunc
  simp only [Sem.run_bind, run_program, Result.andThen_ok, hf, h2, hb, Option.isNone_some, Bool.false_eq_true, if_false, Sem.run_pure]

theorem evF_ok {base : CallK} {L : Nat} (hn : namesOk P = true) (hbase : SoundCall P base) (hdraw : ∀ call, SoundCall P call → DrawOk P call) : ∀ k, SoundCall P (evF P base L k)
  | 0 => hbase
  | k + 1 => by
    intro f args s v s' h
    simp only [evF] at h
    split at h
    · rename_i x hb
      simp only [Option.some.injEq] at h
      subst h
      exact hbase f args s v s' hb
    · replace h := Option.bind_eq_some_iff.1 h
      obtain ⟨fn, hf, h⟩ := h
      replace h := Option.bind_eq_some_iff.1 h
      obtain ⟨c, hc, h⟩ := h
      obtain ⟨hlen, h⟩ := bif_some h
      replace h := Option.bind_eq_some_iff.1 h
      obtain ⟨⟨x, f1⟩, h1, h⟩ := h
      simp only [] at h
      have hcall := evF_ok (L := L) hn hbase hdraw k
      have hd := hdraw _ hcall
      have hx : ∃ vs, xresults P f1.e f1.s fn.results.toList = some vs ∧ v = oneOr vs ∧ s' = leave s f1.s (oneOr vs) ∧ (x = .normal ∨ x = .ret) := by
        split at h
        · obtain ⟨vs, h2, h3⟩ := Option.map_eq_some_iff.1 h
          simp only [Prod.mk.injEq] at h3
          exact ⟨vs, h2, h3.1.symm, h3.2.symm, .inl rfl⟩
        · obtain ⟨vs, h2, h3⟩ := Option.map_eq_some_iff.1 h
          simp only [Prod.mk.injEq] at h3
          exact ⟨vs, h2, h3.1.symm, h3.2.symm, .inr rfl⟩
        · cases h
      obtain ⟨vs, h2, rfl, rfl, hx⟩ := hx
      have hm := mono_C hcall hd L c _ _ _ h1
      refine ⟨⟨by rw [leave_n]; exact hm.1, fun hO => hm.2.1 (by rw [leave_O] at hO; exact hO), fun hw => ⟨fun g k hk => by rw [leave_n]; exact (hm.2.2 hw).1 g k (leave_h _ _ _ g k hk), fun x hx => by rw [leave_n]; rw [leave_lo] at hx; exact (hm.2.2 hw).2 x hx⟩⟩, fun hO => ⟨enters_of hn hf hc, ?_⟩⟩
      intro r w hwf hg hfr hb
      rw [leave_n] at hfr
      rw [leave_O] at hO
      have hle : args.length ≤ fn.ntmps := Nat.le_of_ble_eq_true hlen
      have hgs : Good r { s with esc := s.n } w := hg.same rfl rfl
      refine calls_of_wp hf hc ?_
      refine (evC_ok hcall hd L c _ _ _ h1 hO r _ w _ (fits_enter hle hb) hwf hgs hfr ?_).1
      intro r' a' w' hto hfit
      obtain ⟨h3, h4⟩ := results_ok hto.good hfit.tmps h2
      have hpost : a'.defers = [] ∧ ∃ v, (results fn a'.tmps).run P w' = .ok v w' ∧ ∃ r'', (Ending.returned v) = .returned (r''.val (oneOr vs)) ∧ To r s w r'' (leave s f1.s (oneOr vs)) w' ∧ bnd r''.d (oneOr vs) = true :=
        ⟨hfit.defers, _, h3, r', rfl, (To.start (s := s) hto rfl rfl rfl).finish (leave_n _ _ _) (leave_h _ _ _) (leave_lo _ _ _), h4⟩
      rcases hx with rfl | rfl
      · exact hpost
      · exact hpost
end
end Go.Proofs.Ytnnagaioiodniaa.Eng
