/-
  The fast machine answers what the machine answers. Here: code, functions; a closed statement's run.
-/
import Derived.Test.YtliidiceljdgmaaEngZ
namespace Go.Proofs.Ytliidiceljdgmaa.Eng
open Go.RowKit

variable {P : Program} {call : CallK} {nt : Nat}
theorem evC_seq (n : Nat) (a b : Code) (f : Fr) : evC P call nt (n + 1) (.seq a b) f = match evC P call nt n a f with
    | some (.normal, f) => evC P call nt n b f
    | x => x := by rw [evC]; rfl
theorem evC_cond (n : Nat) (x : Operand) (a b : Code) (f : Fr) : evC P call nt (n + 1) (.cond x a b) f = match opd f.e x with
    | some (.bool t) => evC P call nt n (bif (test t f.s).1 then a else b) ⟨f.e, (test t f.s).2⟩
    | _ => none := by rw [evC]; rfl
theorem evC_block (n id : Nat) (c : Code) (f : Fr) : evC P call nt (n + 1) (.block id c) f = match evC P call nt n c f with
    | some (.exit i, f) => bif Nat.beq i id then some (.normal, f) else some (.exit i, f)
    | x => x := by rw [evC]; rfl
theorem evC_loop (n : Nat) (c : Code) (f : Fr) : evC P call nt (n + 1) (.loop c) f = match evC P call nt n c f with
    | some (.normal, f) => evC P call nt n (.loop c) f
    | x => x := by rw [evC]; rfl
theorem evC_succ : ∀ (n : Nat) (c : Code) (f : Fr) (r : Exit × Fr), evC P call nt n c f = some r → evC P call nt (n + 1) c f = some r
  | 0, c, f, r, h => by simp [evC] at h
  | n + 1, c, f, r, h => by
    cases c
    case seq a b =>
      rw [evC_seq] at h ⊢
      cases h1 : evC P call nt n a f with
      | none => rw [h1] at h; cases h
      | some x =>
        obtain ⟨x, f1⟩ := x
        rw [h1] at h
        rw [evC_succ n a f _ h1]
        cases x <;> first | exact evC_succ n b f1 r h | exact h
    case cond o a b =>
      rw [evC_cond] at h ⊢
      split at h
      · exact evC_succ n _ _ r h
      · cases h
    case block id c =>
      rw [evC_block] at h ⊢
      cases h1 : evC P call nt n c f with
      | none => rw [h1] at h; cases h
      | some x =>
        rw [h1] at h
        rw [evC_succ n c f _ h1]
        exact h
    case loop c =>
      rw [evC_loop] at h ⊢
      cases h1 : evC P call nt n c f with
      | none => rw [h1] at h; cases h
      | some x =>
        obtain ⟨x, f1⟩ := x
        rw [h1] at h
        rw [evC_succ n c f _ h1]
        cases x <;> first | exact evC_succ n (.loop c) f1 r h | exact h
    all_goals exact h
theorem evC_le {n m : Nat} (hnm : n ≤ m) {c : Code} {f : Fr} {r : Exit × Fr} (h : evC P call nt n c f = some r) : evC P call nt m c f = some r := by
  induction hnm with
  | refl => exact h
  | step _ ih => exact evC_succ _ _ _ _ ih

def outOf (x : Exit) (e : E8) (s : St) : Out :=
  match x with
  | .normal => .nx e s
  | .exit i => .ex i e s
  | .ret => .rt e s
  | _ => .bad
/-- What the fast code answers, the code answers. -/
def OkC (P : Program) (call : CallK) (nt : Nat) (c : Code) (x : Out) (e : Env) (s : St) : Prop :=
  x = .bad ∨ ∃ n y f' E', evC P call nt n c ⟨e, s⟩ = some (y, f') ∧ SameE f'.e E' ∧ x = outOf y E' f'.s
theorem loop_ok {c : Code} {b : E8 → St → Out} (hc : SoundCall P call) (hb : ∀ e E s, SameE e E → WFn s → OkC P call nt c (b E s) e s) : ∀ (L : Nat) (e : Env) (E : E8) (s : St), SameE e E → WFn s → OkC P call nt (.loop c) (loopK L b E s) e s
  | 0, e, E, s, he, hw => .inl rfl
  | L + 1, e, E, s, he, hw => by
    have hd : DrawOk P call := draw_ok hc
    show OkC P call nt (.loop c) (kSeq (b E s) (loopK L b)) e s
    rcases hb e E s he hw with h | ⟨n, y, f', E', h1, h2, h3⟩
    · rw [h]; exact .inl rfl
    · rw [h3]
      have hw' : WFn f'.s := (mono_C hc hd n c _ _ _ h1).2.2 hw
      cases y with
      | normal =>
        rcases loop_ok hc hb L f'.e E' f'.s h2 hw' with h | ⟨m, z, g, E2, h4, h5, h6⟩
        · exact .inl h
        · refine .inr ⟨n + m + 1, z, g, E2, ?_, h5, h6⟩
          rw [evC_loop, evC_le (show n ≤ n + m by omega) h1]
          exact evC_le (show m ≤ n + m by omega) h4
      | exit i => exact .inr ⟨n + 1, .exit i, f', E', by rw [evC_loop, h1], h2, rfl⟩
      | ret => exact .inr ⟨n + 1, .ret, f', E', by rw [evC_loop, h1], h2, rfl⟩
      | _ => exact .inl rfl
theorem kCode_ok {L : Nat} (hc : SoundCall P call) : ∀ (c : Code) (b : KC), kCode P L nt c = some b → ∀ (e : Env) (E : E8) (s : St), SameE e E → WFn s → OkC P call nt c (b call E s) e s
  | .skip, b, h, e, E, s, he, hw => by
    simp only [kCode] at h
    cases h
    exact .inr ⟨1, .normal, ⟨e, s⟩, E, rfl, he, rfl⟩
  | .label _, b, h, e, E, s, he, hw => by
    simp only [kCode] at h
    cases h
    exact .inr ⟨1, .normal, ⟨e, s⟩, E, rfl, he, rfl⟩
  | .exit i, b, h, e, E, s, he, hw => by
    simp only [kCode] at h
    cases h
    exact .inr ⟨1, .exit i, ⟨e, s⟩, E, rfl, he, rfl⟩
  | .ret, b, h, e, E, s, he, hw => by
    simp only [kCode] at h
    cases h
    exact .inr ⟨1, .ret, ⟨e, s⟩, E, rfl, he, rfl⟩
  | .region id ops draw, b, h, e, E, s, he, hw => by
    simp only [kCode] at h
    cases draw
    · rcases kOps_ok _ b h call e E s he with h | ⟨f', E', h1, h2, h3⟩
      · exact .inl h
      · refine .inr ⟨1, .normal, f', E', ?_, h2, h3⟩
        simp only [evC, cond_false, h1, Option.map_some]
    · rcases kDraw_ok h call hc.mono he hw with h | ⟨f', E', h1, h2, h3⟩
      · exact .inl h
      · refine .inr ⟨1, .normal, f', E', ?_, h2, h3⟩
        simp only [evC, cond_true, h1, Option.map_some]
  | .seq a c, b, h, e, E, s, he, hw => by
    simp only [kCode] at h
    obtain ⟨x, hx, h⟩ := Option.bind_eq_some_iff.1 h
    obtain ⟨y, hy, rfl⟩ := Option.map_eq_some_iff.1 h
    have hd : DrawOk P call := draw_ok hc
    rcases kCode_ok hc a x hx e E s he hw with h | ⟨n, z, f', E', h1, h2, h3⟩
    · refine .inl ?_
      show kSeq (x call E s) (y call) = .bad
      rw [h]
      rfl
    · show OkC P call nt (.seq a c) (kSeq (x call E s) (y call)) e s
      rw [h3]
      have hw' : WFn f'.s := (mono_C hc hd n a _ _ _ h1).2.2 hw
      cases z with
      | normal =>
        rcases kCode_ok hc c y hy f'.e E' f'.s h2 hw' with h | ⟨m, z, g, E2, h4, h5, h6⟩
        · exact .inl h
        · refine .inr ⟨n + m + 1, z, g, E2, ?_, h5, h6⟩
          rw [evC_seq, evC_le (show n ≤ n + m by omega) h1]
          exact evC_le (show m ≤ n + m by omega) h4
      | exit i => exact .inr ⟨n + 1, .exit i, f', E', by rw [evC_seq, h1], h2, rfl⟩
      | ret => exact .inr ⟨n + 1, .ret, f', E', by rw [evC_seq, h1], h2, rfl⟩
      | _ => exact .inl rfl
  | .cond o a c, b, h, e, E, s, he, hw => by
    simp only [kCode] at h
    obtain ⟨g, hg, h⟩ := Option.bind_eq_some_iff.1 h
    obtain ⟨x, hx, h⟩ := Option.bind_eq_some_iff.1 h
    obtain ⟨y, hy, rfl⟩ := Option.map_eq_some_iff.1 h
    show OkC P call nt (.cond o a c) (vBool (g E) fun t => kTest t s fun t s => bo t (x call E s) (y call E s)) e s
    rcases vBool_cases (g E) fun t => kTest t s fun t s => bo t (x call E s) (y call E s) with h | ⟨t, ht, h⟩
    · exact .inl h
    · rw [h]
      rcases kTest_cases t s fun t s => bo t (x call E s) (y call E s) with h | ⟨hT, h⟩
      · exact .inl h
      · rw [h, bo_eq]
        have ho := kOpd_ok he hg
        rw [ht] at ho
        cases t
        · rcases kCode_ok hc c y hy e E s he hw with h | ⟨n, z, f', E', h1, h2, h3⟩
          · exact .inl h
          · refine .inr ⟨n + 1, z, f', E', ?_, h2, h3⟩
            rw [evC_cond]
            simp only [ho, test_nil _ hT, cond_false, h1]
        · rcases kCode_ok hc a x hx e E s he hw with h | ⟨n, z, f', E', h1, h2, h3⟩
          · exact .inl h
          · refine .inr ⟨n + 1, z, f', E', ?_, h2, h3⟩
            rw [evC_cond]
            simp only [ho, test_nil _ hT, cond_true, h1]
  | .block id c, b, h, e, E, s, he, hw => by
    simp only [kCode] at h
    obtain ⟨x, hx, rfl⟩ := Option.map_eq_some_iff.1 h
    show OkC P call nt (.block id c) (Out.rec (motive := fun _ => Out) .bad .nx (fun i e s => bo (Nat.beq i id) (.nx e s) (.ex i e s)) .rt (x call E s)) e s
    rcases kCode_ok hc c x hx e E s he hw with h | ⟨n, z, f', E', h1, h2, h3⟩
    · rw [h]; exact .inl rfl
    · rw [h3]
      cases z with
      | normal => exact .inr ⟨n + 1, .normal, f', E', by rw [evC_block, h1], h2, rfl⟩
      | exit i =>
        show OkC P call nt (.block id c) (bo (Nat.beq i id) (.nx E' f'.s) (.ex i E' f'.s)) e s
        rw [bo_eq]
        cases hb : Nat.beq i id
        · exact .inr ⟨n + 1, .exit i, f', E', by rw [evC_block, h1]; simp only [hb, cond_false], h2, rfl⟩
        · exact .inr ⟨n + 1, .normal, f', E', by rw [evC_block, h1]; simp only [hb, cond_true], h2, rfl⟩
      | ret => exact .inr ⟨n + 1, .ret, f', E', by rw [evC_block, h1], h2, rfl⟩
      | _ => exact .inl rfl
  | .loop c, b, h, e, E, s, he, hw => by
    simp only [kCode] at h
    obtain ⟨x, hx, rfl⟩ := Option.map_eq_some_iff.1 h
    exact loop_ok hc (fun e E s he hw => kCode_ok hc c x hx e E s he hw) L e E s he hw
  | .rangeFunc _ _ _ _, b, h, _, _, _, _, _ => by simp only [kCode] at h; cases h
  | .scope _, b, h, _, _, _, _, _ => by simp only [kCode] at h; cases h
  | .goto _, b, h, _, _, _, _, _ => by simp only [kCode] at h; cases h
  | .refuse _, b, h, _, _, _, _, _ => by simp only [kCode] at h; cases h

/-! Functions. -/
theorem kResults_ok {e : Env} {E : E8} (he : SameE e E) (s : St) : ∀ (l : List ResultVar) (r : E8 → List Value), kResults l = some r → xresults P e s l = some (r E)
  | [], r, h => by cases h; rfl
  | .tmp t :: l, r, h => by
    simp only [kResults] at h
    obtain ⟨g, hg, h⟩ := Option.bind_eq_some_iff.1 h
    obtain ⟨r', hr, rfl⟩ := Option.map_eq_some_iff.1 h
    simp only [xresults, kResults_ok he s l r' hr, Option.map_some, he t, get8_of hg]
  | .cell _ _ :: l, r, h => by cases h
theorem kOuts_ok {l : List ResultVar} {r : E8 → St → Option (List Value)} (h : kOuts P l = some r) {e : Env} {E : E8} (he : SameE e E) (s : St) : r E s = xresults P e s l := by
  unfold kOuts at h
  split at h
  · rename_i g hg
    cases h
    rw [kResults_ok he s l g hg]
  · cases h
    exact xresults_congr (fun t => by rw [he t, sameE_toE E t]) l
theorem enter8_ok : ∀ (args : List Value) (k : Nat) (e : Env) (E E' : E8), SameE e E → enter8 args k E = some E' → SameE (enterE args k e) E'
  | [], k, e, E, E', he, h => by cases h; rw [enterE]; exact he
  | v :: l, k, e, E, E', he, h => by
    have h' : Option.rec (motive := fun _ => Option E8) none (fun p => enter8 l (Nat.succ k) (p v E)) (kPut k) = some E' := h
    cases hp : kPut k with
    | none => rw [hp] at h'; cases h'
    | some p =>
      rw [hp] at h'
      rw [enterE]
      exact enter8_ok l (k + 1) _ (p v E) E' (he.put hp v) h'
theorem dropK'_eq (n : Nat) : ∀ h : Heap, dropK' n h = dropNew n h
  | [] => rfl
  | x :: h => by
    show bo (Nat.blt x.1 n) (x :: dropK' n h) (dropK' n h) = _
    rw [bo_eq, dropK'_eq n h]
    unfold dropNew
    rw [List.filter_cons]
    cases Nat.blt x.1 n <;> rfl
theorem leaveK_eq (s s' : St) (v : Value) : leaveK s s' v = leave s s' v := by
  unfold leaveK leave
  rw [bo_eq, dropK'_eq]
theorem wfK_ok {α : Type} (n : Nat) : ∀ h : List (Nat × α), wfK n h = true → ∀ x ∈ h, x.1 < n
  | [], _, x, hx => by cases hx
  | y :: h, hw, x, hx => by
    have hw' : bo (Nat.blt y.1 n) (wfK n h) false = true := hw
    rw [bo_eq] at hw'
    cases hb : Nat.blt y.1 n
    · rw [hb] at hw'; cases hw'
    · rw [hb] at hw'
      rcases List.mem_cons.1 hx with rfl | hx
      · simpa using hb
      · exact wfK_ok n h hw' x hx
theorem look_mem' : ∀ (h : Heap) (g : Nat) (k : Blk), look h g = some k → ∃ x ∈ h, x.1 = g
  | [], g, k, h => by cases h
  | x :: l, g, k, h => by
    rw [look] at h
    cases hb : Nat.beq x.1 g
    · rw [hb] at h
      obtain ⟨y, hy, e⟩ := look_mem' l g k h
      exact ⟨y, List.mem_cons_of_mem _ hy, e⟩
    · exact ⟨x, List.mem_cons_self .., Nat.eq_of_beq_eq_true hb⟩
theorem wfK_wf {s : St} (h1 : wfK s.n s.h = true) (h2 : wfK s.n s.lo = true) : WFn s :=
  ⟨fun g k hk => by obtain ⟨x, hx, rfl⟩ := look_mem' _ _ _ hk; exact wfK_ok _ _ h1 x hx, wfK_ok _ _ h2⟩
/-- One function's run. -/
theorem step_ok (hn : namesOk P = true) (hcall : SoundCall P call) {f : FuncId} {args : List Value} {s : St} {fn : Func} {c : Code} {x : Exit} {f1 : Fr} {n : Nat} {vs : List Value}
    (hf : P.funcs[f]? = some fn) (hc : fn.body = some c) (hlen : Nat.ble args.length fn.ntmps = true) (h1 : evC P call fn.ntmps n c ⟨enterE args 0 [], { s with esc := s.n }⟩ = some (x, f1))
    (h2 : xresults P f1.e f1.s fn.results.toList = some vs) (hx : x = .normal ∨ x = .ret) :
    Mono s (leave s f1.s (oneOr vs)) ∧ ((leave s f1.s (oneOr vs)).O → Enters P f ∧ CallOk P f args s (oneOr vs) (leave s f1.s (oneOr vs))) := by
  have hd : DrawOk P call := draw_ok hcall
  have hm := mono_C hcall hd n c _ _ _ h1
  refine ⟨⟨by rw [leave_n]; exact hm.1, fun hO => hm.2.1 (by rw [leave_O] at hO; exact hO), fun hw => ⟨fun g k hk => by rw [leave_n]; exact (hm.2.2 hw).1 g k (leave_h _ _ _ g k hk), fun x hx => by rw [leave_n]; rw [leave_lo] at hx; exact (hm.2.2 hw).2 x hx⟩⟩, fun hO => ⟨enters_of hn hf hc, ?_⟩⟩
  intro r w hwf hg hfr hb
  rw [leave_n] at hfr
  rw [leave_O] at hO
  have hle : args.length ≤ fn.ntmps := Nat.le_of_ble_eq_true hlen
  have hgs : Good r { s with esc := s.n } w := hg.same rfl rfl
  refine calls_of_wp hf hc ?_
  refine (evC_ok hcall hd n c _ _ _ h1 hO r _ w _ (fits_enter hle hb) hwf hgs hfr ?_).1
  intro r' a' w' hto hfit
  obtain ⟨h3, h4⟩ := results_ok hto.good hfit.tmps h2
  have hpost : a'.defers = [] ∧ ∃ v, (results fn a'.tmps).run P w' = .ok v w' ∧ ∃ r'', (Ending.returned v) = .returned (r''.val (oneOr vs)) ∧ To r s w r'' (leave s f1.s (oneOr vs)) w' ∧ bnd r''.d (oneOr vs) = true :=
    ⟨hfit.defers, _, h3, r', rfl, (To.start (s := s) hto rfl rfl rfl).finish (leave_n _ _ _) (leave_h _ _ _) (leave_lo _ _ _), h4⟩
  rcases hx with rfl | rfl
  · exact hpost
  · exact hpost
theorem kEnd_some {s s' s2 : St} {v : Value} {x : Option (List Value)} (h : kEnd s s' x = some (v, s2)) : ∃ vs, x = some vs ∧ v = oneOr vs ∧ s2 = leave s s' (oneOr vs) := by
  cases x with
  | none => cases h
  | some vs =>
    have h' : some (oneOr vs, leaveK s s' (oneOr vs)) = some (v, s2) := h
    rw [leaveK_eq] at h'
    cases h'
    exact ⟨vs, rfl, rfl, rfl⟩
theorem kEnter_ok {L : Nat} (hn : namesOk P = true) (hcall : SoundCall P call) {f : FuncId} {F : KF} (hF : kFunc P L f = some F) {args : List Value} {s s' : St} {v : Value} (h : kEnter F call args s = some (v, s')) :
    Mono s s' ∧ (s'.O → Enters P f ∧ CallOk P f args s v s') := by
  unfold kFunc at hF
  obtain ⟨fn, hf, hF⟩ := Option.bind_eq_some_iff.1 hF
  obtain ⟨c, hc, hF⟩ := Option.bind_eq_some_iff.1 hF
  obtain ⟨b, hb, hF⟩ := Option.bind_eq_some_iff.1 hF
  obtain ⟨r, hr, hF⟩ := Option.bind_eq_some_iff.1 hF
  obtain ⟨_, hF⟩ := bif_some hF
  cases hF
  unfold kEnter at h
  rw [bo_eq] at h
  obtain ⟨hw, h⟩ := bif_some h
  simp only [Bool.and_eq_true] at hw
  obtain ⟨⟨hw1, hw2⟩, hlen⟩ := hw
  have hwf := wfK_wf hw1 hw2
  cases he : enter8 args 0 e80 with
  | none => rw [he] at h; cases h
  | some E =>
    rw [he] at h
    have h' : Out.rec (motive := fun _ => Res) none (fun e s' => kEnd s s' (r e s')) (fun _ _ _ => none) (fun e s' => kEnd s s' (r e s')) (b call E { s with esc := s.n }) = some (v, s') := h
    have hE := enter8_ok args 0 [] e80 E (fun t => by rw [getE_nil, get8_e80]) he
    rcases kCode_ok hcall c b hb (enterE args 0 []) E { s with esc := s.n } hE hwf with hx | ⟨n, y, f1, E', h1, h2, h3⟩
    · rw [hx] at h'; cases h'
    · rw [h3] at h'
      have key : kEnd s f1.s (r E' f1.s) = some (v, s') → (y = .normal ∨ y = .ret) → Mono s s' ∧ (s'.O → Enters P f ∧ CallOk P f args s v s') := by
        intro h hy
        obtain ⟨vs, hv, rfl, rfl⟩ := kEnd_some h
        rw [kOuts_ok hr h2] at hv
        exact step_ok hn hcall hf hc hlen h1 hv hy
      cases y with
      | normal => exact key h' (.inl rfl)
      | ret => exact key h' (.inr rfl)
      | _ => cases h'
theorem kF_ok {base : CallK} {L : Nat} (hn : namesOk P = true) (hbase : SoundCall P base) : ∀ k, SoundCall P (kF P base L k)
  | 0 => hbase
  | k + 1 => by
    intro f args s v s' h
    have h' : Option.rec (motive := fun _ => Res) (Option.rec (motive := fun _ => Res) none (fun F => kEnter F (kF P base L k) args s) (kFunc P L f)) some (base f args s) = some (v, s') := h
    cases hb : base f args s with
    | some x =>
      rw [hb] at h'
      refine hbase f args s v s' ?_
      rw [hb]
      exact h'
    | none =>
      rw [hb] at h'
      cases hF : kFunc P L f with
      | none => rw [hF] at h'; cases h'
      | some F =>
        rw [hF] at h'
        exact kEnter_ok hn (kF_ok hn hbase k) hF h'
/-- A closed statement's run by the fast machine: one word for it. -/
def RunK (P : Program) (L k : Nat) (f : FuncId) : Prop := SaysTrue (kF P noBase L k f [] st0)
theorem runK_calls {P : Program} {L k : Nat} {f : FuncId} (hn : namesOk P = true) (h : RunK P L k f = True) (w : World) :
    Calls P f #[] w fun e w' => e = .returned (.bool true) ∧ Below w.heap.size w w' :=
  true_ok (kF_ok (L := L) hn (noBase_ok P) k) (of_eq_true h) (fun u hu => by cases hu) w
end Go.Proofs.Ytliidiceljdgmaa.Eng
