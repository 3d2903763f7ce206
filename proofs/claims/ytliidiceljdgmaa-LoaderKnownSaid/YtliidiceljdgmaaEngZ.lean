/-
  The fast machine answers what the machine answers. Here: guards, lists of operations, regions that draw.
-/
import Derived.Test.YtliidiceljdgmaaEngY
namespace Go.Proofs.Ytliidiceljdgmaa.Eng
open Go.RowKit

variable {P : Program} {ops : Array Oper} {o : Oper}
theorem guardE_none {e : Env} {s : St} (h : o.guard = none) : guardE ops e s o = (true, s) := by
  unfold guardE
  rw [h]
theorem guardE_some {e : Env} {s : St} {j : Nat} {want : Bool} {p : Oper} {d : Tmp} (h : o.guard = some (j, want)) (hp : ops.toList[j]? = some p) (hd : p.dst = some d) :
    guardE ops e s o = match getE e d with
      | .bool b => (cond want (test b s).1 (!(test b s).1), (test b s).2)
      | _ => (false, s) := by
  unfold guardE
  rw [h]
  simp only [hp, Option.bind_some, hd]
  rfl
theorem kSkip_cases (v : Value) (no : Out) (k : Bool → Out) : (∃ b, v = .bool b ∧ kSkip v no k = k b) ∨ (∀ b, v ≠ .bool b) ∧ kSkip v no k = no := by
  cases v with
  | bool b => exact .inl ⟨b, rfl, rfl⟩
  | _ => exact .inr ⟨fun b h => (by cases h), rfl⟩
theorem xguarded_yes {call : CallK} {e : Env} {s s1 : St} (h : guardE ops e s o = (true, s1)) : xguarded P call ops e s o = xop P call e s1 o := by
  unfold xguarded
  rw [h]
  rfl
theorem xguarded_no {call : CallK} {e : Env} {s s1 : St} (h : guardE ops e s o = (false, s1)) : xguarded P call ops e s o = some (undef, s1) := by
  unfold xguarded
  rw [h]
  rfl
/-- What a guard says, for all states alike. -/
theorem guard_cases {a a' : KO} (h : kGuard ops o a = some a') (call : CallK) {e : Env} {E : E8} (s : St) (k : Value → St → Out) (he : SameE e E) :
    a' call E s k = .bad ∨ (∀ s', s'.T = s.T → guardE ops e s' o = (true, s')) ∧ a' call E s k = a call E s k ∨ (∀ s', s'.T = s.T → guardE ops e s' o = (false, s')) ∧ a' call E s k = k undef s := by
  unfold kGuard at h
  split at h
  · rename_i hg
    cases h
    exact .inr (.inl ⟨fun s' _ => guardE_none hg, rfl⟩)
  · rename_i j want hg
    obtain ⟨p, hp, h⟩ := Option.bind_eq_some_iff.1 h
    obtain ⟨d, hd, h⟩ := Option.bind_eq_some_iff.1 h
    obtain ⟨g, hgt, rfl⟩ := Option.map_eq_some_iff.1 h
    have hv : getE e d = g E := by rw [he d, get8_of hgt]
    simp only []
    rcases kSkip_cases (g E) (k undef s) fun b => kTest b s fun t s => bo (bif want then t else !t) (a call E s k) (k undef s) with ⟨b, hb, h⟩ | ⟨hb, h⟩
    · rw [h]
      rcases kTest_cases b s fun t s => bo (bif want then t else !t) (a call E s k) (k undef s) with h | ⟨hT, h⟩
      · exact .inl h
      · rw [h, bo_eq]
        have hge : ∀ s', s'.T = s.T → guardE ops e s' o = (bif want then b else !b, s') := fun s' hs' => by
          rw [guardE_some hg hp hd, hv, hb]
          simp only [test_nil b (hs'.trans hT)]
        cases hw : (bif want then b else !b)
        · rw [hw] at hge
          exact .inr (.inr ⟨hge, rfl⟩)
        · rw [hw] at hge
          exact .inr (.inl ⟨hge, rfl⟩)
    · rw [h]
      refine .inr (.inr ⟨fun s' _ => ?_, rfl⟩)
      rw [guardE_some hg hp hd, hv]
      generalize g E = v at hb
      cases v with
      | bool b => exact absurd rfl (hb b)
      | _ => rfl
theorem guard_val {a a' : KO} (h : kGuard ops o a = some a') (ha : OkVal P o a) (call : CallK) {e : Env} {E : E8} (s : St) (k : Value → St → Out) (he : SameE e E) :
    a' call E s k = .bad ∨ ∃ v, (∀ s', s'.T = s.T → xguarded P call ops e s' o = some (v, s')) ∧ a' call E s k = k v s := by
  rcases guard_cases h call s k he with h | ⟨h1, h2⟩ | ⟨h1, h2⟩
  · exact .inl h
  · rw [h2]
    rcases ha call e E s k he with h | ⟨v, h3, h4⟩
    · exact .inl h
    · exact .inr ⟨v, fun s' hs' => by rw [xguarded_yes (h1 s' hs'), h3 s' hs'], h4⟩
  · exact .inr ⟨undef, fun s' hs' => xguarded_no (h1 s' hs'), h2⟩
theorem guard_op {a a' : KO} (h : kGuard ops o a = some a') (ha : OkOp P o a) (call : CallK) {e : Env} {E : E8} (s : St) (k : Value → St → Out) (he : SameE e E) :
    a' call E s k = .bad ∨ ∃ v s', xguarded P call ops e s o = some (v, s') ∧ a' call E s k = k v s' := by
  rcases guard_cases h call s k he with h | ⟨h1, h2⟩ | ⟨h1, h2⟩
  · exact .inl h
  · rw [h2]
    rcases ha call e E s k he with h | ⟨v, s', h3, h4⟩
    · exact .inl h
    · exact .inr ⟨v, s', by rw [xguarded_yes (h1 s rfl), h3], h4⟩
  · exact .inr ⟨undef, s, xguarded_no (h1 s rfl), h2⟩
theorem kDst_ok {nt : Nat} {dst : Option Tmp} {p : Value → E8 → E8} (h : kDst nt dst = some p) {e : Env} {E : E8} (he : SameE e E) (v : Value) : ∃ e', putO nt e dst v = some e' ∧ SameE e' (p v E) := by
  cases dst with
  | none => cases h; exact ⟨e, rfl, he⟩
  | some d =>
    simp only [kDst] at h
    obtain ⟨h1, h2⟩ := bif_some h
    exact ⟨putE e d v, by simp only [putO, h1, cond_true], he.put h2 v⟩
theorem kOps_ok {nt : Nat} : ∀ (l : List Oper) (b : KC), kOps P nt ops l = some b → ∀ (call : CallK) (e : Env) (E : E8) (s : St), SameE e E →
    b call E s = .bad ∨ ∃ f' E', evOps P call nt ops l ⟨e, s⟩ = some f' ∧ SameE f'.e E' ∧ b call E s = .nx E' f'.s
  | [], b, h, call, e, E, s, he => by cases h; exact .inr ⟨_, E, rfl, he, rfl⟩
  | o :: l, b, h, call, e, E, s, he => by
    simp only [kOps] at h
    obtain ⟨a, ha, h⟩ := Option.bind_eq_some_iff.1 h
    obtain ⟨p, hp, h⟩ := Option.bind_eq_some_iff.1 h
    obtain ⟨c, hc, rfl⟩ := Option.map_eq_some_iff.1 h
    simp only []
    rcases guard_op ha (kOp_ok (P := P)) call s (fun v s => c call (p v E) s) he with h | ⟨v, s', h1, h2⟩
    · exact .inl h
    · rw [h2]
      obtain ⟨e', h3, h4⟩ := kDst_ok hp he v
      rcases kOps_ok l c hc call e' (p v E) s' h4 with h | ⟨f', E', h5, h6, h7⟩
      · exact .inl h
      · refine .inr ⟨f', E', ?_, h6, h7⟩
        simp only [evOps, h1, Option.bind_some, h3, h5]

/-! Regions that draw their order. -/
theorem kVal_free {a : KO} (h : kVal P o = some a) : freeOp o = true := by
  unfold kVal at h
  unfold freeOp
  split at h
  all_goals first
    | (cases h; done)
    | (rename_i ho; simp only [ho]; done)
    | skip
  all_goals
    rename_i c ho
    split at h
    · rename_i hc
      simp only [ho, hc]
    · cases h
theorem noRd_reads (h : noRd o = true) (e : Env) : readsOf e o = [] := by
  unfold noRd at h
  unfold readsOf
  split at h
  · cases h
  · cases h
  · rename_i h1 h2
    split
    · rename_i h3; exact absurd h3 (h1 _ _)
    · rename_i h3; exact absurd h3 (h2 _ _ _)
    · rfl
theorem kReads_ok {rd : E8 → List Nat} (h : kReads o = some rd) {e : Env} {E : E8} (he : SameE e E) : rd E = readsOf e o := by
  have key : ∀ (x : Operand) (rd : E8 → List Nat), ((kOpd x).map fun x => fun e => match x e with
      | .pointer (some a) => [a.block]
      | .slice (some a) _ _ => [a.block]
      | _ => []) = some rd → rd E = match opd e x with
      | some (.pointer (some a)) => [a.block]
      | some (.slice (some a) _ _) => [a.block]
      | _ => [] := by
    intro x rd h
    obtain ⟨f, hf, rfl⟩ := Option.map_eq_some_iff.1 h
    rw [kOpd_ok he hf]
    simp only []
    generalize f E = v
    cases v with
    | pointer a => cases a <;> rfl
    | slice a _ _ => cases a <;> rfl
    | _ => rfl
  unfold kReads at h
  unfold readsOf
  split at h
  · rename_i t x ho
    rw [key x rd h, ho]
    rfl
  · rename_i t t' x ho
    rw [key x rd h, ho]
    rfl
  · rename_i h1 h2
    cases h
    split
    · rename_i h3; exact absurd h3 (h1 _ _)
    · rename_i h3; exact absurd h3 (h2 _ _ _)
    · rfl
/-- Lists of what was done that hide and lock alike. -/
def SameR (r r' : List Rec) : Prop := ∀ B g, hidden B r g = hidden B r' g ∧ locked B r g = locked B r' g
theorem SameR.cons {r r' : List Rec} (h : SameR r r') (x : Rec) : SameR (x :: r) (x :: r') := fun B g => by
  unfold hidden locked
  simp only [List.any_cons]
  have := h B g
  unfold hidden locked at this
  exact ⟨by rw [this.1], by rw [this.2]⟩
theorem SameR.skip {r r' : List Rec} (h : SameR r r') (i n : Nat) : SameR r (⟨i, n, n, []⟩ :: r') := fun B g => by
  have := h B g
  unfold hidden locked at this ⊢
  simp only [List.any_cons, memN, Bool.and_false, Bool.false_or]
  refine ⟨?_, this.2⟩
  have h0 : (!B.testBit i && Nat.ble n g && Nat.blt g n) = false := by
    cases h1 : Nat.ble n g
    · simp
    · have h2 : Nat.blt g n = false := by
        have := Nat.le_of_ble_eq_true h1
        cases h3 : Nat.blt g n
        · rfl
        · have : g < n := by simpa using h3
          omega
      rw [h2]
      simp
  rw [h0, Bool.false_or]
  exact this.1
theorem seen_congr {r r' : List Rec} (h : SameR r r') (B : Nat) (s : St) : ∀ l, seen B r s l = seen B r' s l
  | [] => rfl
  | g :: l => by
    simp only [seen, (h B g).1, seen_congr h B s l]
theorem inK_eq {r r' : List Rec} (h : SameR r r') (B : Nat) (e : Env) (s : St) (o : Oper) : inK B r (readsOf e o) s (freeOp o) = stIn B r' e s o := by
  unfold inK stIn
  rw [bo_eq]
  have h1 : (fun g => hidden B r g) = fun g => hidden B r' g := funext fun g => (h B g).1
  have h2 : (fun g => locked B r g) = fun g => locked B r' g := funext fun g => (h B g).2
  have h3 : ∀ g, hidden B r g = hidden B r' g := fun g => (h B g).1
  have h4 : ∀ g, locked B r g = locked B r' g := fun g => (h B g).2
  simp only [h3, h4, seen_congr h]
theorem stOut_congr {r r' : List Rec} (h : SameR r r') (B : Nat) (s : St) (o : Oper) (s' : St) : stOut B r s o s' = stOut B r' s o s' := by
  unfold stOut
  have h3 : ∀ g, hidden B r g = hidden B r' g := fun g => (h B g).1
  have h4 : ∀ g, locked B r g = locked B r' g := fun g => (h B g).2
  simp only [h3, h4]
theorem stIn_T (B : Nat) (r : List Rec) (e : Env) (s : St) (o : Oper) : (stIn B r e s o).T = s.T := by
  unfold stIn
  cases freeOp o <;> rfl
theorem stOut_val {B : Nat} {r : List Rec} {e : Env} {s : St} (hw : WFn s) (hf : freeOp o = true) (hr : readsOf e o = []) : stOut B r s o (stIn B r e s o) = s := by
  unfold stOut stIn
  rw [hf, hr]
  have h : (s.lo.filter fun x => !hidden B r x.1).filter (fun x => Nat.ble s.n x.1) = [] := by
    rw [List.filter_eq_nil_iff]
    intro x hx hc
    have h1 := hw.2 x (List.mem_filter.1 hx).1
    have h2 := Nat.le_of_ble_eq_true hc
    omega
  simp only [cond_true, seen, List.filter_nil, List.nil_append, h]
theorem kDSeq_ok {nt : Nat} {B : List Nat} : ∀ (l : List Nat) (b : KD), kDSeq P nt ops B l = some b → ∀ (call : CallK) (_ : MonoCall call) (e : Env) (E : E8) (s : St) (r r' : List Rec), SameE e E → SameR r r' → WFn s →
    b call E s r = .bad ∨ ∃ f' E', evSeq P call nt ops B l r' ⟨e, s⟩ = some f' ∧ SameE f'.e E' ∧ b call E s r = .nx E' f'.s
  | [], b, h, call, hm, e, E, s, r, r', he, hr, hw => by cases h; exact .inr ⟨_, E, rfl, he, rfl⟩
  | i :: l, b, h, call, hm, e, E, s, r, r', he, hr, hw => by
    simp only [kDSeq] at h
    obtain ⟨o, ho, h⟩ := Option.bind_eq_some_iff.1 h
    obtain ⟨next, hn, h⟩ := Option.bind_eq_some_iff.1 h
    unfold kDOp at h
    obtain ⟨p, hp, h⟩ := Option.bind_eq_some_iff.1 h
    split at h
    · rename_i a ha
      obtain ⟨hnr, ha⟩ := bif_some ha
      obtain ⟨a', ha', rfl⟩ := Option.map_eq_some_iff.1 h
      simp only []
      rcases guard_val ha' (kVal_ok ha) call s (fun v s => next call (p v E) s r) he with h | ⟨v, h1, h2⟩
      · exact .inl h
      · rw [h2]
        obtain ⟨e', h3, h4⟩ := kDst_ok hp he v
        have h5 := h1 (stIn (getD' 0 B i) r' e s o) (stIn_T _ _ _ _ _)
        have h6 := stOut_val (B := getD' 0 B i) (r := r') hw (kVal_free ha) (noRd_reads hnr e)
        rcases kDSeq_ok l next hn call hm e' (p v E) s r (⟨i, s.n, s.n, []⟩ :: r') h4 (hr.skip i s.n) hw with h | ⟨f', E', h7, h8, h9⟩
        · exact .inl h
        · refine .inr ⟨f', E', ?_, h8, h9⟩
          simp only [evSeq, ho, h5, Option.bind_some, h3, h6, stIn_n, noRd_reads hnr e, h7]
    · obtain ⟨a', ha', h⟩ := Option.bind_eq_some_iff.1 h
      obtain ⟨rd, hrd, rfl⟩ := Option.map_eq_some_iff.1 h
      simp only []
      rw [kReads_ok hrd he, inK_eq hr]
      rcases guard_op ha' (kOp_ok (P := P)) call (stIn (getD' 0 B i) r' e s o) (fun v s' => next call (p v E) (stOut (getD' 0 B i) r s o s') (⟨i, s.n, s'.n, readsOf e o⟩ :: r)) he with h | ⟨v, s', h1, h2⟩
      · exact .inl h
      · rw [h2]
        obtain ⟨e', h3, h4⟩ := kDst_ok hp he v
        have hm1 := mono_guarded hm h1
        have hn1 : s.n ≤ s'.n := by have := hm1.1; rw [stIn_n] at this; exact this
        have hw1 : WFn (stOut (getD' 0 B i) r' s o s') := stOut_wf hw (hm1.2.2 (stIn_wf hw)) hn1
        rw [stOut_congr hr]
        rcases kDSeq_ok l next hn call hm e' (p v E) _ (⟨i, s.n, s'.n, readsOf e o⟩ :: r) (⟨i, s.n, s'.n, readsOf e o⟩ :: r') h4 (hr.cons _) hw1 with h | ⟨f', E', h7, h8, h9⟩
        · exact .inl h
        · refine .inr ⟨f', E', ?_, h8, h9⟩
          simp only [evSeq, ho, h1, Option.bind_some, h3, h7]
theorem kDraw_ok {nt : Nat} {b : KC} (h : kDraw P nt ops = some b) (call : CallK) (hm : MonoCall call) {e : Env} {E : E8} {s : St} (he : SameE e E) (hw : WFn s) :
    b call E s = .bad ∨ ∃ f' E', evDraw P call nt ops ⟨e, s⟩ = some f' ∧ SameE f'.e E' ∧ b call E s = .nx E' f'.s := by
  unfold kDraw at h
  obtain ⟨hok, h⟩ := bif_some h
  obtain ⟨c, hc, rfl⟩ := Option.map_eq_some_iff.1 h
  rcases kDSeq_ok _ c hc call hm e E s [] [] he (fun _ _ => ⟨rfl, rfl⟩) hw with h | ⟨f', E', h1, h2, h3⟩
  · exact .inl h
  · refine .inr ⟨f', E', ?_, h2, h3⟩
    unfold evDraw
    rw [hok]
    exact h1
end Go.Proofs.Ytliidiceljdgmaa.Eng
