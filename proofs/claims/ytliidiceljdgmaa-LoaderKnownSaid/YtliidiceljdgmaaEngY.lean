/-
  The fast machine answers what the machine answers. Here: operators, memory, every operation.
-/
import Derived.Test.YtliidiceljdgmaaEngX
namespace Go.Proofs.Ytliidiceljdgmaa.Eng
open Go.RowKit

variable {P : Program} {o : Oper}
/-- An operator's work is the machine's. -/
def OkBin (P : Program) (o : Oper) (op : BinOp) (t : TypeId) (f : K2) : Prop := ∀ e x y u v s k, (∃ ty, o.op = .binOp op t x y ty) → opd e x = some u → opd e y = some v → f u v s k = .bad ∨ ∃ r, (∀ s', xbin P e s' o op t u v = some (r, s')) ∧ f u v s k = k r s
theorem val_bin {op : BinOp} {t ty : TypeId} {x y : Operand} {fx fy : E8 → Value} {f : K2} (ho : o.op = .binOp op t x y ty) (hx : kOpd x = some fx) (hy : kOpd y = some fy) (hf : OkBin P o op t f) : OkVal P o fun _ e s k => f (fx e) (fy e) s k := by
  intro call e E s k he
  rcases hf e x y _ _ s k ⟨ty, ho⟩ (kOpd_ok he hx) (kOpd_ok he hy) with h | ⟨r, h1, h⟩
  · exact .inl h
  · refine .inr ⟨r, fun s' _ => ?_, h⟩
    simp only [xop, ho, kOpd_ok he hx, kOpd_ok he hy, Option.bind_some, h1]
theorem bin_two {op : BinOp} {t : TypeId} {g : IntKind → Int → Int → Value} (hi : ∀ e s o i a b, xint P e s o op i a i b = xpure P e s o) (h : ∀ i a b, pureRun P (binOp op t (.int i a) (.int i b)) = some (g i a b) ∧ flat1 (g i a b) = true) :
    OkBin P o op t fun x y s k => two x y fun i a b => k (g i a b) s := by
  rintro e x y u v s k ⟨ty, ho⟩ hx hy
  rcases two_cases u v fun i a b => k (g i a b) s with h' | ⟨i, a, b, rfl, rfl, h'⟩
  · exact .inl h'
  · refine .inr ⟨_, fun s' => ?_, h'⟩
    simp only [xbin, hi]
    exact xpure_bin ho hx hy (h i a b).1 (h i a b).2
theorem bin_bits {op : BinOp} {t : TypeId} {g : IntKind → Nat → Nat → Value} (hi : ∀ e s o i a b, xint P e s o op i a i b = xpure P e s o) (h : ∀ i (a b : Nat), a ≤ maskK i → b ≤ maskK i → pureRun P (binOp op t (.int i (a : Nat)) (.int i (b : Nat))) = some (g i a b) ∧ flat1 (g i a b) = true) :
    OkBin P o op t fun x y s k => bits2 x y fun i a b => k (g i a b) s := by
  rintro e x y u v s k ⟨ty, ho⟩ hx hy
  rcases bits2_cases u v fun i a b => k (g i a b) s with h' | ⟨i, a, b, rfl, rfl, ha, hb, h'⟩
  · exact .inl h'
  · refine .inr ⟨_, fun s' => ?_, h'⟩
    simp only [xbin, hi]
    exact xpure_bin ho hx hy (h i a b ha hb).1 (h i a b ha hb).2
theorem wrapK_flat (i : IntKind) (n : Int) : flat1 (wrapK i n) = true := by rw [wrapK_eq]; rfl
theorem kInt_ok {op : BinOp} {t : TypeId} {f : K2} (h : kInt op = some f) : OkBin P o op t f := by
  cases op <;> cases h
  case add => exact bin_two (fun _ _ _ _ _ _ => rfl) fun i a b => ⟨by rw [wrapK_eq]; exact run_arith (.inl ⟨rfl, rfl⟩), wrapK_flat _ _⟩
  case sub => exact bin_two (fun _ _ _ _ _ _ => rfl) fun i a b => ⟨by rw [wrapK_eq]; exact run_arith (.inr (.inl ⟨rfl, rfl⟩)), wrapK_flat _ _⟩
  case mul => exact bin_two (fun _ _ _ _ _ _ => rfl) fun i a b => ⟨by rw [wrapK_eq]; exact run_arith (.inr (.inr ⟨rfl, rfl⟩)), wrapK_flat _ _⟩
  case eql => exact bin_two (fun _ _ _ _ _ _ => rfl) fun i a b => ⟨by rw [eqI_eq]; exact run_cmp (.inl ⟨rfl, rfl⟩), rfl⟩
  case neq => exact bin_two (fun _ _ _ _ _ _ => rfl) fun i a b => ⟨by rw [eqI_eq]; exact run_cmp (.inr (.inl ⟨rfl, rfl⟩)), rfl⟩
  case lss => exact bin_two (fun _ _ _ _ _ _ => rfl) fun i a b => ⟨by rw [ltI_eq]; exact run_cmp (.inr (.inr (.inl ⟨rfl, rfl⟩))), rfl⟩
  case leq => exact bin_two (fun _ _ _ _ _ _ => rfl) fun i a b => ⟨by rw [leI_eq]; exact run_cmp (.inr (.inr (.inr (.inl ⟨rfl, rfl⟩)))), rfl⟩
  case gtr => exact bin_two (fun _ _ _ _ _ _ => rfl) fun i a b => ⟨by rw [ltI_eq]; exact run_cmp (.inr (.inr (.inr (.inr (.inl ⟨rfl, rfl⟩))))), rfl⟩
  case geq => exact bin_two (fun _ _ _ _ _ _ => rfl) fun i a b => ⟨by rw [leI_eq]; exact run_cmp (.inr (.inr (.inr (.inr (.inr ⟨rfl, rfl⟩))))), rfl⟩
  case and => exact bin_bits (fun _ _ _ _ _ _ => rfl) fun i a b ha hb => ⟨by rw [wrapK_eq]; exact run_bits ha hb (.inl ⟨rfl, rfl⟩), wrapK_flat _ _⟩
  case or => exact bin_bits (fun _ _ _ _ _ _ => rfl) fun i a b ha hb => ⟨by rw [wrapK_eq]; exact run_bits ha hb (.inr (.inl ⟨rfl, rfl⟩)), wrapK_flat _ _⟩
  case xor => exact bin_bits (fun _ _ _ _ _ _ => rfl) fun i a b ha hb => ⟨by rw [wrapK_eq]; exact run_bits ha hb (.inr (.inr (.inl ⟨rfl, rfl⟩))), wrapK_flat _ _⟩
  case andNot => exact bin_bits (fun _ _ _ _ _ _ => rfl) fun i a b ha hb => ⟨by rw [wrapK_eq]; exact run_bits ha hb (.inr (.inr (.inr ⟨rfl, rfl⟩))), wrapK_flat _ _⟩
  case quo =>
    rintro e x y u v s k ⟨ty, ho⟩ hx hy
    simp only []
    rcases two_cases u v fun i a b => bo (eqI b (.ofNat 0)) .bad (k (wrapK i (Int.tdiv a b)) s) with h' | ⟨i, a, b, rfl, rfl, h'⟩
    · exact .inl h'
    · rw [h', bo_eq, eqI_eq]
      cases hb : decide (b = Int.ofNat 0)
      · refine .inr ⟨.int i (i.wrap (Int.tdiv a b)), fun s' => ?_, by rw [cond_false, wrapK_eq]⟩
        have hb' : decide (b = 0) = false := hb
        simp only [xbin, xint, decide_true, cond_true, hb', Bool.not_false, ask_true]
      · exact .inl rfl
  case rem =>
    rintro e x y u v s k ⟨ty, ho⟩ hx hy
    simp only []
    rcases two_cases u v fun i a b => bo (eqI b (.ofNat 0)) .bad (k (.int i (Int.tmod a b)) s) with h' | ⟨i, a, b, rfl, rfl, h'⟩
    · exact .inl h'
    · rw [h', bo_eq, eqI_eq]
      cases hb : decide (b = Int.ofNat 0)
      · refine .inr ⟨.int i (Int.tmod a b), fun s' => ?_, by rw [cond_false]⟩
        have hb' : decide (b = 0) = false := hb
        simp only [xbin, xint, decide_true, cond_true, hb', Bool.not_false, ask_true]
      · exact .inl rfl
  case shl =>
    rintro e x y u v s k ⟨ty, ho⟩ hx hy
    simp only []
    rcases shift2_cases u v fun i a n => k (wrapK i (Int.mul a (.ofNat (Nat.pow 2 n)))) s with h' | ⟨i, a, j, b, rfl, rfl, h'⟩
    · exact .inl h'
    · rw [h', wrapK_eq, mulI_eq]
      refine .inr ⟨_, fun s' => ?_, rfl⟩
      have hb : decide ((0 : Int) ≤ (b : Nat)) = true := by simp
      simp only [xbin, xint, hb, ask_true, Int.toNat_natCast]
  case shr =>
    rintro e x y u v s k ⟨ty, ho⟩ hx hy
    simp only []
    rcases shift2_cases u v fun i a n => k (.int i (shrI a n)) s with h' | ⟨i, a, j, b, rfl, rfl, h'⟩
    · exact .inl h'
    · rw [h', shrI_eq]
      refine .inr ⟨_, fun s' => ?_, rfl⟩
      have hb : decide ((0 : Int) ≤ (b : Nat)) = true := by simp
      simp only [xbin, xint, hb, ask_true, Int.toNat_natCast]
theorem xbin_nil {e : Env} {s : St} {op : BinOp} {t : TypeId} {x y : Value} {b : Bool} (h : xeqNil P t x y = some b) (hop : op = .eql ∨ op = .neq) : xbin P e s o op t x y = some (.bool (bif decide (op = .eql) then b else !b), s) := by
  have h' := h
  unfold xeqNil at h'
  obtain ⟨d, _, h'⟩ := Option.bind_eq_some_iff.1 h'
  obtain ⟨a, ha, h'⟩ := Option.bind_eq_some_iff.1 h'
  obtain ⟨c, hc, _⟩ := Option.bind_eq_some_iff.1 h'
  rcases hop with rfl | rfl <;> cases x <;> first | (cases ha; done) | (simp only [xbin, h, Option.map_some]; rfl)
theorem xagg_eq {s : St} {op : BinOp} {t : TypeId} {x y : Array Value} : xagg P s op t x y = (xaggV P op t x y).map fun v => (v, s) := by
  unfold xagg xaggV
  cases (P.eqGuardType P.depth t || !(x.toList.all flat0) || !(y.toList.all flat0))
  · simp only [cond_false]
    cases op <;> simp [Option.map_map, Function.comp_def]
  · rfl
theorem bin_agg {op : BinOp} {t : TypeId} : OkBin P o op t fun x y s k => vAgg x fun a => vAgg y fun b => kOpt (xaggV P op t ⟨a⟩ ⟨b⟩) fun v => k v s := by
  rintro e x y u v s k ⟨ty, ho⟩ hx hy
  simp only []
  rcases vAgg_cases u fun a => vAgg v fun b => kOpt (xaggV P op t ⟨a⟩ ⟨b⟩) fun v => k v s with h | ⟨a, rfl, h⟩
  · exact .inl h
  · rw [h]
    rcases vAgg_cases v fun b => kOpt (xaggV P op t ⟨a.toList⟩ ⟨b⟩) fun v => k v s with h | ⟨b, rfl, h⟩
    · exact .inl h
    · rw [h]
      rcases kOpt_cases (xaggV P op t ⟨a.toList⟩ ⟨b.toList⟩) fun v => k v s with h | ⟨r, hr, h⟩
      · exact .inl h
      · rw [h]
        refine .inr ⟨r, fun s' => ?_, rfl⟩
        show xagg P s' op t a b = _
        rw [xagg_eq]
        have hr' : xaggV P op t a b = some r := hr
        rw [hr']
        rfl
theorem bin_nil {op : BinOp} {t : TypeId} (hop : op = .eql ∨ op = .neq) : OkBin P o op t fun x y s k => kOpt (xeqNil P t x y) fun b => k (.bool (bif decide (op = .eql) then b else !b)) s := by
  rintro e x y u v s k ⟨ty, ho⟩ hx hy
  rcases kOpt_cases (xeqNil P t u v) fun b => k (.bool (bif decide (op = .eql) then b else !b)) s with h | ⟨r, hr, h⟩
  · exact .inl h
  · exact .inr ⟨_, fun s' => xbin_nil hr hop, h⟩
theorem kBin_ok {op : BinOp} {t : TypeId} {f : K2} (h : kBin P op t = some f) : OkBin P o op t f := by
  unfold kBin at h
  obtain ⟨d, hd, h⟩ := Option.bind_eq_some_iff.1 h
  split at h
  · exact kInt_ok h
  · cases h
    rintro e x y u v s k ⟨ty, ho⟩ hx hy
    simp only []
    rcases vStr_cases u fun a => vStr v fun b => kOpt (xstr op a b) fun v => k v s with h | ⟨a, rfl, h⟩
    · exact .inl h
    · rw [h]
      rcases vStr_cases v fun b => kOpt (xstr op a.data.toList b) fun v => k v s with h | ⟨b, rfl, h⟩
      · exact .inl h
      · rw [h]
        rcases kOpt_cases (xstr op a.data.toList b.data.toList) fun v => k v s with h | ⟨r, hr, h⟩
        · exact .inl h
        · rw [h]
          exact .inr ⟨r, fun s' => by simp only [xbin, hr, Option.map_some], rfl⟩
  · cases h; exact bin_agg
  · cases h; exact bin_agg
  · split at h <;> cases h
    · exact bin_nil (.inl rfl)
    · exact bin_nil (.inr rfl)
  · split at h <;> cases h
    · exact bin_nil (.inl rfl)
    · exact bin_nil (.inr rfl)
  · cases h

theorem kVal_ok {a : KO} (h : kVal P o = some a) : OkVal P o a := by
  unfold kVal at h
  split at h
  · rename_i x ho
    obtain ⟨f, hf, rfl⟩ := Option.map_eq_some_iff.1 h
    exact val_move (.inl ho) hf
  · rename_i x ho
    obtain ⟨f, hf, rfl⟩ := Option.map_eq_some_iff.1 h
    exact val_move (.inr ho) hf
  · rename_i c x y ho
    obtain ⟨fc, hc, h⟩ := Option.bind_eq_some_iff.1 h
    obtain ⟨fx, hx, h⟩ := Option.bind_eq_some_iff.1 h
    obtain ⟨fy, hy, rfl⟩ := Option.map_eq_some_iff.1 h
    exact val_pick ho hc hx hy
  · rename_i t parts ho
    obtain ⟨f, hf, rfl⟩ := Option.map_eq_some_iff.1 h
    exact val_build ho hf
  · rename_i x ho
    obtain ⟨f, hf, rfl⟩ := Option.map_eq_some_iff.1 h
    exact val_nilCheck ho hf
  · rename_i op t x y ty ho
    obtain ⟨fx, hx, h⟩ := Option.bind_eq_some_iff.1 h
    obtain ⟨fy, hy, h⟩ := Option.bind_eq_some_iff.1 h
    obtain ⟨f, hf, rfl⟩ := Option.map_eq_some_iff.1 h
    exact val_bin ho hx hy (kBin_ok hf)
  · rename_i t x ho
    obtain ⟨f, hf, rfl⟩ := Option.map_eq_some_iff.1 h
    exact val_not ho hf
  · rename_i src dst x ho
    obtain ⟨hs, h⟩ := bif_some h
    obtain ⟨i, hi, h⟩ := Option.bind_eq_some_iff.1 h
    obtain ⟨f, hf, rfl⟩ := Option.map_eq_some_iff.1 h
    exact val_conv ho hs hi hf
  · rename_i t x i ho
    obtain ⟨f, hf, h⟩ := Option.bind_eq_some_iff.1 h
    exact val_fieldAddr ho hf h
  · rename_i t x i ho
    obtain ⟨f, hf, h⟩ := Option.bind_eq_some_iff.1 h
    exact val_field ho hf h
  · rename_i t x i ho
    obtain ⟨f, hf, h⟩ := Option.bind_eq_some_iff.1 h
    obtain ⟨g, hg, h⟩ := Option.bind_eq_some_iff.1 h
    exact val_indexAddr ho hf hg h
  · rename_i x i ho
    obtain ⟨f, hf, rfl⟩ := Option.map_eq_some_iff.1 h
    exact val_extract ho hf
  · rename_i fn first captured ho
    split at h
    · obtain ⟨f, hf, h⟩ := Option.bind_eq_some_iff.1 h
      obtain ⟨g, hg, rfl⟩ := Option.map_eq_some_iff.1 h
      exact val_makeFunc ho hf hg
    · cases h
  · rename_i c ho
    split at h
    · rename_i hc
      split at h
      · rename_i x t ts h1 h2
        obtain ⟨d, hd, h⟩ := Option.bind_eq_some_iff.1 h
        split at h
        · rename_i e
          obtain ⟨f, hf, rfl⟩ := Option.map_eq_some_iff.1 h
          exact val_len true ho hc h1 h2 (fun _ => ⟨_, hd⟩) (fun h => by cases h) hf
        · obtain ⟨f, hf, rfl⟩ := Option.map_eq_some_iff.1 h
          exact val_len false ho hc h1 h2 (fun h => by cases h) (fun _ => hd) hf
        · cases h
      · cases h
    · cases h
  · cases h

/-! Memory. -/
theorem op_res {f : E8 → St → Res} (h : ∀ call e E s, SameE e E → xop P call e s o = f E s) : OkOp P o fun _ e s k => kRes (f e s) k := by
  intro call e E s k he
  rcases kRes_cases (f E s) k with h' | ⟨v, s', h1, h'⟩
  · exact .inl h'
  · exact .inr ⟨v, s', by rw [h call e E s he, h1], h'⟩
theorem op_load {t : TypeId} {x : Operand} {f : E8 → Value} {a : KO} (ho : o.op = .load t x) (hx : kOpd x = some f) (ha : kLoad P t f = some a) : OkOp P o a := by
  intro call e E s k he
  unfold kLoad at ha
  obtain ⟨g, hg, ha⟩ := Option.bind_eq_some_iff.1 ha
  cases g
  · cases ha
    simp only []
    rcases vPtr_cases (f E) fun a => rd1 s a fun v => k v s with h | ⟨a, hp, h⟩
    · exact .inl h
    · rw [h]
      rcases rd1_cases s a fun v => k v s with h | ⟨v, hv, h⟩
      · exact .inl h
      · rw [h]
        refine .inr ⟨v, s, ?_, rfl⟩
        simp only [xop, ho, kOpd_ok he hx, hp, Option.bind_some, xloadVar, hg, cond_false, hv, Option.map_some]
  · obtain ⟨n, hn, rfl⟩ := Option.map_eq_some_iff.1 ha
    simp only []
    rcases vPtr_cases (f E) fun a => rdN s a n fun l => k (.agg ⟨l⟩) s with h | ⟨a, hp, h⟩
    · exact .inl h
    · rw [h]
      rcases rdN_cases s a n fun l => k (.agg ⟨l⟩) s with h | ⟨l, hl, h⟩
      · exact .inl h
      · rw [h]
        refine .inr ⟨_, s, ?_, rfl⟩
        simp only [xop, ho, kOpd_ok he hx, hp, Option.bind_some, xloadVar, hg, cond_true, hn, hl, Option.map_some]
theorem op_store {t : TypeId} {x y : Operand} {f g : E8 → Value} {a : KO} (ho : o.op = .store t x y) (hx : kOpd x = some f) (hy : kOpd y = some g) (ha : kStore P t f g = some a) : OkOp P o a := by
  intro call e E s k he
  unfold kStore at ha
  obtain ⟨n, hn, rfl⟩ := Option.map_eq_some_iff.1 ha
  simp only []
  rcases vPtr_cases (f E) fun a => bo (lenK n (cellsK (g E))) (wrK s a n (cellsK (g E)) fun s => k undef s) .bad with h | ⟨a, hp, h⟩
  · exact .inl h
  · rw [h, bo_eq, lenK_eq, cellsK_eq]
    cases hl : Nat.beq (g E).cells.toList.length n
    · exact .inl rfl
    · rw [cond_true]
      rcases wrK_cases s a n (g E).cells.toList (Nat.eq_of_beq_eq_true hl) fun s => k undef s with h | ⟨s', hs, h⟩
      · exact .inl h
      · rw [h]
        refine .inr ⟨undef, s', ?_, rfl⟩
        have hl' : Nat.beq (g E).cells.size n = true := by rw [← Array.length_toList]; exact hl
        simp only [xop, ho, kOpd_ok he hx, kOpd_ok he hy, hp, Option.bind_some, xstoreVar, hn, hl', cond_true, hs, Option.map_some]
theorem op_call {c : Call} {f : Operand} {args : E8 → List Value} {a : KO} (ho : o.op = .call c) (hc : c.callee = .value f) (hx : kOpds c.args.toList = some args) (ha : kCall f args = some a) : OkOp P o a := by
  intro call e E s k he
  unfold kCall at ha
  split at ha
  · cases ha
    rename_i g
    rcases kRes_cases (call g (args E) s) k with h | ⟨v, s', h1, h⟩
    · exact .inl h
    · refine .inr ⟨v, s', ?_, h⟩
      simp only [xop, ho, xcall, hc, opd, Option.bind_some, kOpds_ok he hx, List.append_nil]
      exact h1
  · obtain ⟨g, hg, rfl⟩ := Option.map_eq_some_iff.1 ha
    simp only []
    rcases vFn_cases (g E) fun h a b => kRes (call h (a ++ args E ++ b) s) k with h | ⟨h', x, y, hv, h⟩
    · exact .inl h
    · rw [h]
      rcases kRes_cases (call h' (x.toList ++ args E ++ y.toList) s) k with h | ⟨v, s', h1, h⟩
      · exact .inl h
      · refine .inr ⟨v, s', ?_, h⟩
        simp only [xop, ho, xcall, hc, kOpd_ok he hg, hv, Option.bind_some, kOpds_ok he hx, h1]
theorem kMem_ok {a : KO} (h : kMem P o = some a) : OkOp P o a := by
  unfold kMem at h
  split at h
  · rename_i t ho
    obtain ⟨z, hz, rfl⟩ := Option.map_eq_some_iff.1 h
    intro call e E s k he
    refine .inr ⟨_, _, ?_, rfl⟩
    simp only [xop, ho, hz, Option.map_some]
    rfl
  · rename_i t x ho
    obtain ⟨f, hf, rfl⟩ := Option.map_eq_some_iff.1 h
    intro call e E s k he
    simp only [bo_eq, allK_eq, cellsK_eq]
    cases hc : (f E).cells.toList.all fun v => v.oneCell'
    · exact .inl rfl
    · refine .inr ⟨_, _, ?_, rfl⟩
      have hc' : oneC (f E).cells.toList = true := hc
      simp only [xop, ho, kOpd_ok he hf, Option.bind_some, hc', cond_true]
      rfl
  · rename_i t x ho
    obtain ⟨f, hf, h⟩ := Option.bind_eq_some_iff.1 h
    exact op_load ho hf h
  · rename_i t x y ho
    obtain ⟨f, hf, h⟩ := Option.bind_eq_some_iff.1 h
    obtain ⟨g, hg, h⟩ := Option.bind_eq_some_iff.1 h
    exact op_store ho hf hg h
  · rename_i t len parts ho
    obtain ⟨f, hf, rfl⟩ := Option.map_eq_some_iff.1 h
    exact op_res (f := fun e s => xbuildSlice P s t len (f e)) fun call e E s he => by simp only [xop, ho, kOpdsN_ok he hf, Option.bind_some]
  · rename_i t l c ho
    obtain ⟨f, hf, h⟩ := Option.bind_eq_some_iff.1 h
    obtain ⟨g, hg, rfl⟩ := Option.map_eq_some_iff.1 h
    exact op_res (f := fun e s => xmakeSlice P s t (f e) (g e)) fun call e E s he => by simp only [xop, ho, kOpd_ok he hf, kOpd_ok he hg, Option.bind_some]
  · rename_i t x lo hi mx ho
    obtain ⟨f, hf, h⟩ := Option.bind_eq_some_iff.1 h
    obtain ⟨f1, h1, h⟩ := Option.bind_eq_some_iff.1 h
    obtain ⟨f2, h2, h⟩ := Option.bind_eq_some_iff.1 h
    obtain ⟨f3, h3, rfl⟩ := Option.map_eq_some_iff.1 h
    exact op_res (f := fun e s => xslice P s t (f e) (f1 e) (f2 e) (f3 e)) fun call e E s he => by simp only [xop, ho, kOpd_ok he hf, kOpdo_ok he h1, kOpdo_ok he h2, kOpdo_ok he h3, Option.bind_some]
  · rename_i t x i ho
    obtain ⟨f, hf, h⟩ := Option.bind_eq_some_iff.1 h
    obtain ⟨g, hg, rfl⟩ := Option.map_eq_some_iff.1 h
    exact op_res (f := fun e s => xindex P s t (f e) (g e)) fun call e E s he => by simp only [xop, ho, kOpd_ok he hf, kOpd_ok he hg, Option.bind_some]
  · rename_i c ho
    split at h
    · rename_i f hc
      obtain ⟨args, hx, h⟩ := Option.bind_eq_some_iff.1 h
      exact op_call ho hc hx h
    · rename_i hc
      split at h
      · rename_i x y t ts h1 h2
        obtain ⟨f, hf, h⟩ := Option.bind_eq_some_iff.1 h
        obtain ⟨g, hg, rfl⟩ := Option.map_eq_some_iff.1 h
        exact op_res (f := fun e s => xappend P s t ts.head? (f e) (g e)) fun call e E s he => by simp only [xop, ho, xcall, hc, h1, h2, kOpd_ok he hf, kOpd_ok he hg, Option.bind_some]
      · cases h
    · rename_i hc
      split at h
      · rename_i x y t ts h1 h2
        obtain ⟨f, hf, h⟩ := Option.bind_eq_some_iff.1 h
        obtain ⟨g, hg, rfl⟩ := Option.map_eq_some_iff.1 h
        exact op_res (f := fun e s => xcopy P s t (f e) (g e)) fun call e E s he => by simp only [xop, ho, xcall, hc, h1, h2, kOpd_ok he hf, kOpd_ok he hg, Option.bind_some]
      · cases h
    · cases h
  · cases h
theorem kAny_ok : OkOp P o (kAny P o) := by
  intro call e E s k he
  unfold kAny
  rcases kRes_cases (xop P call (toE E) s o) k with h | ⟨v, s', h1, h⟩
  · exact .inl h
  · refine .inr ⟨v, s', ?_, h⟩
    rw [← h1]
    exact xop_congr fun t => by rw [he t, sameE_toE E t]
theorem kOp_ok : OkOp P o (kOp P o) := by
  unfold kOp
  split
  · rename_i a h; exact (kVal_ok h).op
  · split
    · rename_i a h; exact kMem_ok h
    · exact kAny_ok
end Go.Proofs.Ytliidiceljdgmaa.Eng
