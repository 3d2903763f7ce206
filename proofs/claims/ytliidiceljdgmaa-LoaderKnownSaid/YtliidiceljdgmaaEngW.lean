/-
  The fast machine answers what the machine answers. Here: numbers.
-/
import Derived.Test.YtliidiceljdgmaaEngV
namespace Go.Proofs.Ytliidiceljdgmaa.Eng
open Go.RowKit

theorem backK_eq (k : IntKind) (m : Nat) (hm : m ≤ maskK k) : backK k m = k.wrap (m : Nat) := by
  unfold backK
  rw [bo_eq]
  cases h : Nat.ble m (topK k)
  · have h1 : ¬ m ≤ topK k := fun hc => by rw [Nat.ble_eq_true_of_le hc] at h; cases h
    simp only [cond_false]
    cases k <;> simp [topK, maskK, IntKind.wrap, IntKind.bits, IntKind.signed, Int.negSucc_eq] at * <;> omega
  · have h1 := Nat.le_of_ble_eq_true h
    simp only [cond_true]
    cases k <;> simp [topK, maskK, IntKind.wrap, IntKind.bits, IntKind.signed] at * <;> omega
theorem wrap_congr (k : IntKind) {a b : Int} (h : a % ((maskK k : Nat) + 1 : Int) = b % ((maskK k : Nat) + 1 : Int)) : k.wrap a = k.wrap b := by
  cases k <;> simp [maskK, IntKind.wrap, IntKind.bits, IntKind.signed] at * <;> simp [h]
theorem wrapK_eq (k : IntKind) (n : Int) : wrapK k n = .int k (k.wrap n) := by
  cases n with
  | ofNat a =>
    show bo (Nat.ble a (topK k)) (Value.int k (.ofNat a)) (Value.int k (backK k (Nat.mod a (Nat.succ (maskK k))))) = _
    rw [bo_eq]
    cases h : Nat.ble a (topK k)
    · simp only [cond_false]
      have h2 : Nat.mod a (Nat.succ (maskK k)) = a % (maskK k + 1) := rfl
      rw [h2, backK_eq k _ (by have := Nat.mod_lt a (show maskK k + 1 > 0 by omega); omega)]
      refine congrArg _ (wrap_congr k ?_)
      have hM : ((maskK k : Nat) + 1 : Int) = ((maskK k + 1 : Nat) : Int) := by simp
      rw [hM]
      show ((a % (maskK k + 1) : Nat) : Int) % _ = ((a : Nat) : Int) % _
      rw [← Int.natCast_emod, ← Int.natCast_emod, Nat.mod_mod]
    · have h1 := Nat.le_of_ble_eq_true h
      simp only [cond_true]
      cases k <;> simp [topK, IntKind.wrap, IntKind.bits, IntKind.signed] at * <;> omega
  | negSucc a =>
    show bo (Nat.blt a (lowK k)) (Value.int k (.negSucc a)) (Value.int k (backK k (Nat.sub (maskK k) (Nat.mod a (Nat.succ (maskK k)))))) = _
    rw [bo_eq]
    cases h : Nat.blt a (lowK k)
    · simp only [cond_false]
      have h2 : Nat.sub (maskK k) (Nat.mod a (Nat.succ (maskK k))) = maskK k - a % (maskK k + 1) := rfl
      rw [h2, backK_eq k _ (Nat.sub_le _ _)]
      refine congrArg _ (wrap_congr k ?_)
      have h3 := Nat.mod_lt a (show maskK k + 1 > 0 by omega)
      rw [Int.negSucc_eq]
      have h4 : ((maskK k - a % (maskK k + 1) : Nat) : Int) = (maskK k : Int) - ((a % (maskK k + 1) : Nat) : Int) := by omega
      rw [h4]
      have hM : ((maskK k : Nat) + 1 : Int) = ((maskK k + 1 : Nat) : Int) := by simp
      have hM2 : (maskK k : Int) = ((maskK k + 1 : Nat) : Int) - 1 := by omega
      rw [hM, hM2]
      generalize maskK k + 1 = M at h3 ⊢
      rw [Int.emod_eq_emod_iff_emod_sub_eq_zero]
      have h5 : ((a % M : Nat) : Int) = (a : Int) - (M : Int) * ((a / M : Nat) : Int) := by
        have h := congrArg (fun n : Nat => (n : Int)) (Nat.div_add_mod a M)
        simp only [Int.natCast_add, Int.natCast_mul] at h
        omega
      rw [h5]
      have h6 : (M : Int) - 1 - ((a : Int) - (M : Int) * ((a / M : Nat) : Int)) - -((a : Int) + 1) = (M : Int) * (1 + ((a / M : Nat) : Int)) := by
        rw [Int.mul_add, Int.mul_one]
        omega
      rw [h6]
      exact Int.mul_emod_right _ _
    · have h1 : a < lowK k := by simpa using h
      simp only [cond_true, Int.negSucc_eq]
      refine congrArg (Value.int k) (Eq.symm ?_)
      cases k <;> simp only [lowK] at h1
      · exact IntWalk.i8_in _ (by omega)
      · exact IntWalk.i16_in _ (by omega)
      · exact IntWalk.i32_in _ (by omega)
      · exact IntWalk.i64_in _ (by omega)
      · omega
      · omega
      · omega
      · omega

theorem eqI_eq (x y : Int) : eqI x y = decide (x = y) := by
  cases x with
  | ofNat a => cases y with
    | ofNat b => show Nat.beq a b = _; rw [Bool.eq_iff_iff]; simp; omega
    | negSucc b => show false = _; rw [Bool.eq_iff_iff]; simp
  | negSucc a => cases y with
    | ofNat b => show false = _; rw [Bool.eq_iff_iff]; simp
    | negSucc b => show Nat.beq a b = _; rw [Bool.eq_iff_iff]; simp
theorem ltI_eq (x y : Int) : ltI x y = decide (x < y) := by
  cases x with
  | ofNat a => cases y with
    | ofNat b => show Nat.blt a b = _; rw [Bool.eq_iff_iff]; simp
    | negSucc b => show false = _; rw [Bool.eq_iff_iff]; simp; omega
  | negSucc a => cases y with
    | ofNat b => show true = _; rw [Bool.eq_iff_iff]; simp; omega
    | negSucc b => show Nat.blt b a = _; rw [Bool.eq_iff_iff]; simp; omega
theorem leI_eq (x y : Int) : leI x y = decide (x ≤ y) := by
  cases x with
  | ofNat a => cases y with
    | ofNat b => show Nat.ble a b = _; rw [Bool.eq_iff_iff]; simp
    | negSucc b => show false = _; rw [Bool.eq_iff_iff]; simp; omega
  | negSucc a => cases y with
    | ofNat b => show true = _; rw [Bool.eq_iff_iff]; simp; omega
    | negSucc b => show Nat.ble b a = _; rw [Bool.eq_iff_iff]; simp; omega
theorem numK_inj {i j : IntKind} (h : Nat.beq (numK i) (numK j) = true) : i = j := by
  cases i <;> cases j <;> first | rfl | cases h

/-! What asks nobody. -/
theorem pureRun_bind {P : Program} {α β : Type} (f : α → Sem β) : ∀ (x : Sem α) (a : α), pureRun P x = some a → pureRun P (x >>= f) = pureRun P (f a)
  | .pure b, a, h => by simp only [pureRun, Option.some.injEq] at h; subst h; rfl
  | .program k, a, h => by simp only [pureRun] at h; exact pureRun_bind f (k P) a h
  | .mark _ k, a, h => by simp only [pureRun] at h; exact pureRun_bind f k a h
  | .load .., a, h => by simp [pureRun] at h
  | .store .., a, h => by simp [pureRun] at h
  | .new .., a, h => by simp [pureRun] at h
  | .shape .., a, h => by simp [pureRun] at h
  | .freeze .., a, h => by simp [pureRun] at h
  | .frozen .., a, h => by simp [pureRun] at h
  | .getObj .., a, h => by simp [pureRun] at h
  | .setObj .., a, h => by simp [pureRun] at h
  | .choose .., a, h => by simp [pureRun] at h
  | .sys .., a, h => by simp [pureRun] at h
  | .halt _, a, h => by simp [pureRun] at h
theorem pureRun_underlying {P : Program} {t : TypeId} {d : TypeDesc} (h : P.underlying t = some d) : pureRun P (underlying t) = some d := by
  show pureRun P (match P.underlying t with | some d => pure d | none => stuck "no such type") = some d
  rw [h]
  rfl
theorem xpure_of {P : Program} {e : Env} {s : St} {o : Oper} {v : Value} (h1 : ∀ x ∈ o.op.operands, ∃ u, opd e x = some u ∧ flat1 u = true) (h2 : pureRun P (execOp (opT e) o) = some (.value v)) (h3 : flat1 v = true) : xpure P e s o = some (v, s) := by
  unfold xpure
  have h : (o.op.operands.toList.all fun x => match opd e x with | some v => flat1 v | none => false) = true := by
    rw [List.all_eq_true]
    intro x hx
    obtain ⟨u, hu, hf⟩ := h1 x (by simpa using hx)
    rw [hu]
    exact hf
  refine Eq.trans (congrArg (fun c => bif c then _ else none) h) ?_
  rw [h2]
  simp [h3]
theorem xpure_bin {P : Program} {e : Env} {s : St} {o : Oper} {op : BinOp} {t ty : TypeId} {x y : Operand} {i j : IntKind} {a b : Int} {v : Value} (ho : o.op = .binOp op t x y ty) (hx : opd e x = some (.int i a)) (hy : opd e y = some (.int j b))
    (h : pureRun P (binOp op t (.int i a) (.int j b)) = some v) (hv : flat1 v = true) : xpure P e s o = some (v, s) := by
  refine xpure_of ?_ ?_ hv
  · intro z hz
    rw [ho] at hz
    simp only [Op.operands, List.mem_toArray, List.mem_cons, List.not_mem_nil, or_false] at hz
    rcases hz with rfl | rfl
    · exact ⟨_, hx, rfl⟩
    · exact ⟨_, hy, rfl⟩
  · have h1 : opT e x = .int i a := by unfold opT; rw [hx]; rfl
    have h2 : opT e y = .int j b := by unfold opT; rw [hy]; rfl
    unfold execOp
    rw [ho]
    simp only [h1, h2]
    rw [pureRun_bind (a := v)]
    · rfl
    · rw [pureRun_bind (a := ())]
      · exact h
      · cases op <;> rfl

theorem vInt_cases (v : Value) (k : IntKind → Int → Out) : vInt v k = .bad ∨ ∃ i n, v = .int i n ∧ vInt v k = k i n := by
  cases v <;> first | exact .inl rfl | exact .inr ⟨_, _, rfl, rfl⟩
theorem two_cases (x y : Value) (k : IntKind → Int → Int → Out) : two x y k = .bad ∨ ∃ i a b, x = .int i a ∧ y = .int i b ∧ two x y k = k i a b := by
  unfold two
  rcases vInt_cases x fun i a => vInt y fun j b => bo (Nat.beq (numK i) (numK j)) (k i a b) .bad with h | ⟨i, a, rfl, h⟩
  · exact .inl h
  · rw [h]
    rcases vInt_cases y fun j b => bo (Nat.beq (numK i) (numK j)) (k i a b) .bad with h | ⟨j, b, rfl, h⟩
    · exact .inl h
    · rw [h]
      cases hb : Nat.beq (numK i) (numK j)
      · exact .inl rfl
      · have := numK_inj hb
        subst this
        exact .inr ⟨i, a, b, rfl, rfl, rfl⟩
theorem bits2_cases (x y : Value) (k : IntKind → Nat → Nat → Out) : bits2 x y k = .bad ∨ ∃ i a b, x = .int i (a : Nat) ∧ y = .int i (b : Nat) ∧ a ≤ maskK i ∧ b ≤ maskK i ∧ bits2 x y k = k i a b := by
  unfold bits2
  rcases two_cases x y _ with h | ⟨i, a, b, rfl, rfl, h⟩
  · exact .inl h
  · rw [h]
    cases a with
    | negSucc a => exact .inl rfl
    | ofNat a =>
      cases b with
      | negSucc b => exact .inl rfl
      | ofNat b =>
        simp only [bo_eq]
        cases h1 : Nat.ble a (maskK i)
        · exact .inl rfl
        · cases h2 : Nat.ble b (maskK i)
          · exact .inl rfl
          · exact .inr ⟨i, a, b, rfl, rfl, Nat.le_of_ble_eq_true h1, Nat.le_of_ble_eq_true h2, rfl⟩
theorem shift2_cases (x y : Value) (k : IntKind → Int → Nat → Out) : shift2 x y k = .bad ∨ ∃ i a j b, x = .int i a ∧ y = .int j ((b : Nat) : Int) ∧ shift2 x y k = k i a (min b i.bits) := by
  unfold shift2
  rcases vInt_cases x _ with h | ⟨i, a, rfl, h⟩
  · exact .inl h
  · rw [h]
    rcases vInt_cases y _ with h | ⟨j, b, rfl, h⟩
    · exact .inl h
    · rw [h]
      cases b with
      | negSucc b => exact .inl rfl
      | ofNat b =>
        refine .inr ⟨i, a, j, b, rfl, rfl, ?_⟩
        show k i a (bo (Nat.ble b (bitsK i)) b (bitsK i)) = _
        have : bitsK i = i.bits := by cases i <;> rfl
        rw [this, bo_eq]
        cases h1 : Nat.ble b i.bits
        · have : ¬ b ≤ i.bits := fun hc => by rw [Nat.ble_eq_true_of_le hc] at h1; cases h1
          rw [cond_false, Nat.min_eq_right (by omega)]
        · rw [cond_true, Nat.min_eq_left (Nat.le_of_ble_eq_true h1)]
theorem mask_bits (i : IntKind) : maskK i + 1 = 2 ^ i.bits := by cases i <;> rfl
theorem ofInt_nat (i : IntKind) {a : Nat} (h : a ≤ maskK i) : (BitVec.ofInt i.bits (a : Nat)).toNat = a := by
  have := mask_bits i
  rw [BitVec.ofInt_natCast, BitVec.toNat_ofNat, Nat.mod_eq_of_lt (by omega)]

variable {P : Program} {t : TypeId} {i j : IntKind} {a b : Int}
theorem run_arith {op : BinOp} {v : Value} (h : op = .add ∧ v = .int i (i.wrap (a + b)) ∨ op = .sub ∧ v = .int i (i.wrap (a - b)) ∨ op = .mul ∧ v = .int i (i.wrap (a * b))) : pureRun P (binOp op t (.int i a) (.int i b)) = some v := by
  rcases h with ⟨rfl, rfl⟩ | ⟨rfl, rfl⟩ | ⟨rfl, rfl⟩ <;> simp [binOp, Op.intArith, pure, pureRun]
theorem run_cmp {op : BinOp} {c : Bool} (h : op = .eql ∧ c = decide (a = b) ∨ op = .neq ∧ c = (!decide (a = b)) ∨ op = .lss ∧ c = decide (a < b) ∨ op = .leq ∧ c = decide (a ≤ b) ∨ op = .gtr ∧ c = decide (b < a) ∨ op = .geq ∧ c = decide (b ≤ a)) :
    pureRun P (binOp op t (.int i a) (.int i b)) = some (.bool c) := by
  rcases h with ⟨rfl, rfl⟩ | ⟨rfl, rfl⟩ | ⟨rfl, rfl⟩ | ⟨rfl, rfl⟩ | ⟨rfl, rfl⟩ | ⟨rfl, rfl⟩ <;> simp [binOp, Op.intCmp, pure, pureRun, bne] <;> rfl
theorem run_bits {op : BinOp} {x y : Nat} {v : Value} (hx : x ≤ maskK i) (hy : y ≤ maskK i) (h : op = .and ∧ v = .int i (i.wrap (x &&& y : Nat)) ∨ op = .or ∧ v = .int i (i.wrap (x ||| y : Nat)) ∨ op = .xor ∧ v = .int i (i.wrap (x ^^^ y : Nat)) ∨ op = .andNot ∧ v = .int i (i.wrap (x &&& (maskK i - y) : Nat))) :
    pureRun P (binOp op t (.int i (x : Nat)) (.int i (y : Nat))) = some v := by
  have hm := mask_bits i
  rcases h with ⟨rfl, rfl⟩ | ⟨rfl, rfl⟩ | ⟨rfl, rfl⟩ | ⟨rfl, rfl⟩ <;> simp only [binOp, Op.intBits, pure, ne_eq, not_true_eq_false, if_false, pureRun, BitVec.toNat_and, BitVec.toNat_or, BitVec.toNat_xor, BitVec.toNat_not, ofInt_nat i hx, ofInt_nat i hy]
  rw [show maskK i - y = 2 ^ i.bits - 1 - y by omega]
theorem shrI_eq (a : Int) (n : Nat) : shrI a n = a.fdiv (2 ^ n) := by
  obtain ⟨k, hk⟩ : ∃ k, 2 ^ n = k + 1 := ⟨2 ^ n - 1, by have := Nat.two_pow_pos n; omega⟩
  have h2 : (2 : Int) ^ n = ((k + 1 : Nat) : Int) := by rw [← hk]; simp
  rw [h2]
  cases a with
  | ofNat a =>
    show Int.ofNat (a / 2 ^ n) = _
    rw [hk]
    cases a with
    | zero => simp
    | succ a => rfl
  | negSucc a =>
    show Int.negSucc (a / 2 ^ n) = _
    rw [hk]
    rfl
theorem mulI_eq (a : Int) (n : Nat) : Int.mul a (.ofNat (Nat.pow 2 n)) = a * 2 ^ n := by
  show a * ((2 ^ n : Nat) : Int) = _
  simp
end Go.Proofs.Ytliidiceljdgmaa.Eng
