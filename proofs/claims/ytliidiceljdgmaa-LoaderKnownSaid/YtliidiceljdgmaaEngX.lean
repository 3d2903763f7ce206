/-
  The fast machine answers what the machine answers. Here: operations.
-/
import Derived.Test.YtliidiceljdgmaaEngW
namespace Go.Proofs.Ytliidiceljdgmaa.Eng
open Go.RowKit

/-- What touches no cell: one value, whatever the cells are. -/
def OkVal (P : Program) (o : Oper) (a : KO) : Prop := ∀ call e E s k, SameE e E → a call E s k = .bad ∨ ∃ v, (∀ s', s'.T = s.T → xop P call e s' o = some (v, s')) ∧ a call E s k = k v s
def OkOp (P : Program) (o : Oper) (a : KO) : Prop := ∀ call e E s k, SameE e E → a call E s k = .bad ∨ ∃ v s', xop P call e s o = some (v, s') ∧ a call E s k = k v s'
theorem OkVal.op {P : Program} {o : Oper} {a : KO} (h : OkVal P o a) : OkOp P o a := fun call e E s k he => by
  rcases h call e E s k he with h | ⟨v, h1, h2⟩
  · exact .inl h
  · exact .inr ⟨v, s, h1 s rfl, h2⟩

theorem vBool_cases (v : Value) (k : Bool → Out) : vBool v k = .bad ∨ ∃ b, v = .bool b ∧ vBool v k = k b := by
  cases v <;> first | exact .inl rfl | exact .inr ⟨_, rfl, rfl⟩
theorem vStr_cases (v : Value) (k : List UInt8 → Out) : vStr v k = .bad ∨ ∃ b, v = .string b ∧ vStr v k = k b.data.toList := by
  cases v <;> first | exact .inl rfl | exact .inr ⟨_, rfl, rfl⟩
theorem vAgg_cases (v : Value) (k : List Value → Out) : vAgg v k = .bad ∨ ∃ b, v = .agg b ∧ vAgg v k = k b.toList := by
  cases v <;> first | exact .inl rfl | exact .inr ⟨_, rfl, rfl⟩
theorem vTup_cases (v : Value) (k : List Value → Out) : vTup v k = .bad ∨ ∃ b, v = .tuple b ∧ vTup v k = k b.toList := by
  cases v <;> first | exact .inl rfl | exact .inr ⟨_, rfl, rfl⟩
theorem vPtr_cases (v : Value) (k : Addr → Out) : vPtr v k = .bad ∨ ∃ a, v = .pointer (some a) ∧ vPtr v k = k a := by
  cases v with
  | pointer a => cases a with
    | none => exact .inl rfl
    | some a => exact .inr ⟨a, rfl, rfl⟩
  | _ => exact .inl rfl
theorem vSl_cases (v : Value) (k : Addr → Nat → Out) : vSl v k = .bad ∨ ∃ a n c, v = .slice (some a) n c ∧ vSl v k = k a n := by
  cases v with
  | slice a n c => cases a with
    | none => exact .inl rfl
    | some a => exact .inr ⟨a, n, c, rfl, rfl⟩
  | _ => exact .inl rfl
theorem vFn_cases (v : Value) (k : FuncId → List Value → List Value → Out) : vFn v k = .bad ∨ ∃ f a b, v = .func (.func f) a b ∧ vFn v k = k f a.toList b.toList := by
  cases v with
  | func f a b => cases f with
    | func f => exact .inr ⟨f, a, b, rfl, rfl⟩
    | _ => exact .inl rfl
  | _ => exact .inl rfl
theorem kTest_cases (t : Bool) (s : St) (k : Bool → St → Out) : kTest t s k = .bad ∨ s.T = [] ∧ kTest t s k = k t s := by
  unfold kTest
  cases h : s.T
  · exact .inr ⟨rfl, rfl⟩
  · exact .inl rfl
theorem test_nil (t : Bool) {s : St} (h : s.T = []) : test t s = (t, s) := by
  unfold test
  rw [h]
theorem ask_true (s : St) : ask true s = (true, s) := rfl
theorem kNil_cases (v : Value) (s : St) (k : Value → St → Out) : kNil v s k = .bad ∨ ∃ u, xnilCheck v = some u ∧ kNil v s k = k u s := by
  cases v with
  | pointer a => cases a with
    | none => exact .inl rfl
    | some a => exact .inr ⟨_, rfl, rfl⟩
  | func f a b => cases f with
    | func f => exact .inr ⟨_, rfl, rfl⟩
    | _ => exact .inl rfl
  | _ => exact .inl rfl

variable {P : Program} {o : Oper}
theorem val_move {x : Operand} {f : E8 → Value} (ho : o.op = .move x ∨ o.op = .assign x) (hx : kOpd x = some f) : OkVal P o fun _ e s k => k (f e) s := by
  intro call e E s k he
  refine .inr ⟨f E, fun s' _ => ?_, rfl⟩
  rcases ho with ho | ho <;> simp only [xop, ho, kOpd_ok he hx, Option.map_some]
theorem val_pick {c x y : Operand} {fc fx fy : E8 → Value} (ho : o.op = .pick c x y) (hc : kOpd c = some fc) (hx : kOpd x = some fx) (hy : kOpd y = some fy) :
    OkVal P o fun _ e s k => vBool (fc e) fun t => kTest t s fun t s => k (bo t (fx e) (fy e)) s := by
  intro call e E s k he
  simp only []
  rcases vBool_cases (fc E) fun t => kTest t s fun t s => k (bo t (fx E) (fy E)) s with h | ⟨t, ht, h⟩
  · exact .inl h
  · rw [h]
    rcases kTest_cases t s fun t s => k (bo t (fx E) (fy E)) s with h | ⟨hT, h⟩
    · exact .inl h
    · rw [h]
      refine .inr ⟨_, fun s' hs' => ?_, rfl⟩
      simp only [xop, ho, kOpd_ok he hc, ht, Option.bind_some, test_nil t (hs'.trans hT), bo_eq]
      cases t
      · simp only [cond_false, kOpd_ok he hy, Option.map_some]
      · simp only [cond_true, kOpd_ok he hx, Option.map_some]
theorem val_build {t : TypeId} {parts : Array (Nat × Operand)} {f : E8 → List (Nat × Value)} (ho : o.op = .build t parts) (hx : kOpdsN parts.toList = some f) :
    OkVal P o fun _ e s k => kOpt (xbuild P t (f e)) fun v => k v s := by
  intro call e E s k he
  rcases kOpt_cases (xbuild P t (f E)) fun v => k v s with h | ⟨v, hv, h⟩
  · exact .inl h
  · refine .inr ⟨v, fun s' _ => ?_, h⟩
    simp only [xop, ho, kOpdsN_ok he hx, Option.bind_some, hv, Option.map_some]
theorem val_nilCheck {x : Operand} {f : E8 → Value} (ho : o.op = .nilCheck x) (hx : kOpd x = some f) : OkVal P o fun _ e s k => kNil (f e) s k := by
  intro call e E s k he
  rcases kNil_cases (f E) s k with h | ⟨v, hv, h⟩
  · exact .inl h
  · refine .inr ⟨v, fun s' _ => ?_, h⟩
    simp only [xop, ho, kOpd_ok he hx, Option.bind_some, hv, Option.map_some]
theorem val_not {t : TypeId} {x : Operand} {f : E8 → Value} (ho : o.op = .unOp .not t x) (hx : kOpd x = some f) : OkVal P o fun _ e s k => vBool (f e) fun b => k (.bool (!b)) s := by
  intro call e E s k he
  rcases vBool_cases (f E) fun b => k (.bool (!b)) s with h | ⟨b, hb, h⟩
  · exact .inl h
  · refine .inr ⟨_, fun s' _ => ?_, h⟩
    have h1 := kOpd_ok he hx
    rw [hb] at h1
    simp only [xop, ho]
    refine xpure_of ?_ ?_ rfl
    · intro z hz
      rw [ho] at hz
      simp only [Op.operands, List.mem_toArray, List.mem_cons, List.not_mem_nil, or_false] at hz
      subst hz
      exact ⟨_, h1, rfl⟩
    · have h2 : opT e x = .bool b := by unfold opT; rw [h1]; rfl
      unfold execOp
      rw [ho]
      simp only [h2]
      rw [pureRun_bind (a := .bool (!b))]
      · rfl
      · rfl
theorem val_conv {src dst : TypeId} {x : Operand} {f : E8 → Value} {i : IntKind} (ho : o.op = .convert src dst x) (hs : isIntT P src = true) (hd : intT P dst = some i) (hx : kOpd x = some f) : OkVal P o (kConv i f) := by
  intro call e E s k he
  unfold kConv
  rcases vInt_cases (f E) fun _ n => k (wrapK i n) s with h | ⟨j, n, hb, h⟩
  · exact .inl h
  · refine .inr ⟨_, fun s' _ => ?_, h⟩
    have h1 := kOpd_ok he hx
    rw [hb] at h1
    simp only [xop, ho, h1, Option.bind_some, xconvert]
    rw [wrapK_eq]
    have hs' : ∃ i', P.underlying src = some (.int i') := by
      unfold isIntT at hs
      split at hs
      · rename_i i' h'; exact ⟨i', h'⟩
      · cases hs
    have hd' : P.underlying dst = some (.int i) := by
      unfold intT at hd
      split at hd
      · rename_i i' h'; cases hd; exact h'
      · cases hd
    obtain ⟨i', hs'⟩ := hs'
    refine xpure_of ?_ ?_ rfl
    · intro z hz
      rw [ho] at hz
      simp only [Op.operands, List.mem_toArray, List.mem_cons, List.not_mem_nil, or_false] at hz
      subst hz
      exact ⟨_, h1, rfl⟩
    · have h2 : opT e x = .int j n := by unfold opT; rw [h1]; rfl
      unfold execOp
      rw [ho]
      simp only [h2]
      rw [pureRun_bind (a := .int i (i.wrap n))]
      · rfl
      · unfold convert
        rw [pureRun_bind (a := .int i') _ _ (pureRun_underlying hs'), pureRun_bind (a := .int i) _ _ (pureRun_underlying hd')]
        rfl
theorem add_spot {a : Addr} (h : a.spot = none) (m : Nat) : a.add m = ⟨a.block, a.off + m, none⟩ := by
  unfold Addr.add
  obtain ⟨b, c, d⟩ := a
  cases h
  split
  · rename_i h0; subst h0; rfl
  · rfl
theorem val_fieldAddr {t : TypeId} {x : Operand} {f : E8 → Value} {i : Nat} {a : KO} (ho : o.op = .fieldAddr t x i) (hx : kOpd x = some f) (ha : kFieldAddr P t f i = some a) : OkVal P o a := by
  intro call e E s k he
  unfold kFieldAddr at ha
  obtain ⟨d, hd, ha⟩ := Option.bind_eq_some_iff.1 ha
  split at ha
  · rename_i fields
    obtain ⟨fd, hfd, ha⟩ := Option.bind_eq_some_iff.1 ha
    obtain ⟨n, hn, ha⟩ := Option.bind_eq_some_iff.1 ha
    cases hz : Nat.beq n 0
    · rw [hz] at ha
      cases ha
      simp only []
      rcases vPtr_cases (f E) fun a => plain a (k (.pointer (some ⟨a.block, Nat.add a.off fd.offset, none⟩)) s) with h | ⟨a, ha, h⟩
      · exact .inl h
      · rw [h, plain_eq]
        split
        · rename_i hsp
          refine .inr ⟨_, fun s' _ => ?_, rfl⟩
          simp only [xop, ho, kOpd_ok he hx, ha, Option.bind_some, xfieldAddr, hsp, hd, hfd, hn, hz, cond_false, Option.map_some, add_spot hsp]
          rfl
        · exact .inl rfl
    · rw [hz] at ha; cases ha
  · cases ha
theorem part_ok {t : TypeId} {p : List Value → Nat → (Value → Out) → Out} (h : kPart P t = some p) (cs : List Value) (off : Nat) (k : Value → Out) : p cs off k = .bad ∨ ∃ v, xpart P t cs off = some v ∧ p cs off k = k v := by
  unfold kPart at h
  obtain ⟨g, hg, h⟩ := Option.bind_eq_some_iff.1 h
  unfold xpart
  cases g
  · cases h
    simp only [nthK_eq, hg, Option.bind_some, cond_false]
    split
    · rename_i v hv; exact .inr ⟨v, hv, rfl⟩
    · exact .inl rfl
  · obtain ⟨n, hn, rfl⟩ := Option.map_eq_some_iff.1 h
    simp only [hg, Option.bind_some, cond_true, hn, Option.map_some]
    exact .inr ⟨_, rfl, rfl⟩
theorem val_field {t : TypeId} {x : Operand} {f : E8 → Value} {i : Nat} {a : KO} (ho : o.op = .field t x i) (hx : kOpd x = some f) (ha : kField P t f i = some a) : OkVal P o a := by
  intro call e E s k he
  unfold kField at ha
  obtain ⟨d, hd, ha⟩ := Option.bind_eq_some_iff.1 ha
  split at ha
  · rename_i fields
    obtain ⟨fd, hfd, ha⟩ := Option.bind_eq_some_iff.1 ha
    obtain ⟨p, hp, rfl⟩ := Option.map_eq_some_iff.1 ha
    simp only []
    rcases vAgg_cases (f E) fun cs => p cs fd.offset fun v => k v s with h | ⟨cs, hcs, h⟩
    · exact .inl h
    · rw [h]
      rcases part_ok hp cs.toList fd.offset fun v => k v s with h | ⟨v, hv, h⟩
      · exact .inl h
      · rw [h]
        refine .inr ⟨v, fun s' _ => ?_, rfl⟩
        simp only [xop, ho, kOpd_ok he hx, hcs, Option.bind_some, xfield, hd, hfd, hv, Option.map_some]
  · cases ha
theorem below_cases (i : Value) (n : Nat) (s : St) (k : Nat → St → Out) : below i n s k = .bad ∨ ∃ j m, i = .int j ((m : Nat) : Int) ∧ m < n ∧ below i n s k = k m s := by
  unfold below
  rcases vInt_cases i fun _ i => Int.rec (motive := fun _ => Out) (fun i => bo (Nat.blt i n) (k i s) .bad) (fun _ => .bad) i with h | ⟨j, m, rfl, h⟩
  · exact .inl h
  · rw [h]
    cases m with
    | negSucc m => exact .inl rfl
    | ofNat m =>
      show bo (Nat.blt m n) (k m s) .bad = .bad ∨ _
      rw [bo_eq]
      cases hb : Nat.blt m n
      · exact .inl rfl
      · exact .inr ⟨j, m, rfl, by simpa using hb, by show bo (Nat.blt m n) (k m s) .bad = _; rw [hb]; rfl⟩
theorem inLen_nat {m n : Nat} (h : m < n) : inLen (m : Int) n = true := by
  unfold inLen
  simp
  omega
theorem val_indexAddr {t : TypeId} {x ix : Operand} {f g : E8 → Value} {a : KO} (ho : o.op = .indexAddr t x ix) (hx : kOpd x = some f) (hi : kOpd ix = some g) (ha : kIndexAddr P t f g = some a) : OkVal P o a := by
  intro call e E s k he
  unfold kIndexAddr at ha
  obtain ⟨d, hd, ha⟩ := Option.bind_eq_some_iff.1 ha
  split at ha
  · rename_i len elem
    obtain ⟨n, hn, rfl⟩ := Option.map_eq_some_iff.1 ha
    simp only []
    rcases vPtr_cases (f E) fun a => plain a (below (g E) len s fun i s => k (.pointer (some ⟨a.block, Nat.add a.off (Nat.mul i n), none⟩)) s) with h | ⟨a, ha, h⟩
    · exact .inl h
    · rw [h, plain_eq]
      split
      · rename_i hsp
        rcases below_cases (g E) len s fun i s => k (.pointer (some ⟨a.block, Nat.add a.off (Nat.mul i n), none⟩)) s with h | ⟨j, m, hm, hlt, h⟩
        · exact .inl h
        · rw [h]
          refine .inr ⟨_, fun s' _ => ?_, rfl⟩
          simp only [xop, ho, kOpd_ok he hx, kOpd_ok he hi, ha, hm, Option.bind_some, xindexAddr, hsp, hd, hn, inLen_nat hlt, ask_true, cond_true, add_spot hsp, Int.toNat_natCast]
          rfl
      · exact .inl rfl
  · rename_i elem
    obtain ⟨n, hn, rfl⟩ := Option.map_eq_some_iff.1 ha
    simp only []
    rcases vSl_cases (f E) fun a len => plain a (below (g E) len s fun i s => k (.pointer (some ⟨a.block, Nat.add a.off (Nat.mul i n), none⟩)) s) with h | ⟨a, len, cap, ha, h⟩
    · exact .inl h
    · rw [h, plain_eq]
      split
      · rename_i hsp
        rcases below_cases (g E) len s fun i s => k (.pointer (some ⟨a.block, Nat.add a.off (Nat.mul i n), none⟩)) s with h | ⟨j, m, hm, hlt, h⟩
        · exact .inl h
        · rw [h]
          refine .inr ⟨_, fun s' _ => ?_, rfl⟩
          simp only [xop, ho, kOpd_ok he hx, kOpd_ok he hi, ha, hm, Option.bind_some, xindexAddr, hsp, hd, hn, inLen_nat hlt, ask_true, cond_true, add_spot hsp, Int.toNat_natCast]
          rfl
      · exact .inl rfl
  · cases ha
theorem val_extract {x : Operand} {f : E8 → Value} {i : Nat} (ho : o.op = .extract x i) (hx : kOpd x = some f) : OkVal P o fun _ e s k => vTup (f e) fun cs => nthK i (fun v => k v s) cs := by
  intro call e E s k he
  simp only []
  rcases vTup_cases (f E) fun cs => nthK i (fun v => k v s) cs with h | ⟨cs, hcs, h⟩
  · exact .inl h
  · rw [h, nthK_eq]
    split
    · rename_i v hv
      refine .inr ⟨v, fun s' _ => ?_, rfl⟩
      simp only [xop, ho, kOpd_ok he hx, hcs, Option.bind_some, xextract, hv, Option.map_some]
    · exact .inl rfl
theorem val_makeFunc {g : FuncId} {first captured : Array Operand} {a b : E8 → List Value} (ho : o.op = .makeFunc (.func g) first captured) (ha : kOpds first.toList = some a) (hb : kOpds captured.toList = some b) :
    OkVal P o fun _ e s k => k (.func (.func g) ⟨a e⟩ ⟨b e⟩) s := by
  intro call e E s k he
  refine .inr ⟨_, fun s' _ => ?_, rfl⟩
  simp only [xop, ho, kOpds_ok he ha, kOpds_ok he hb, Option.bind_some, Option.map_some]
theorem kLen_cases (v : Value) (sl : Bool) (s : St) (k : Value → St → Out) : kLen v sl s k = .bad ∨ (∃ a n c, sl = true ∧ v = .slice a n c ∧ kLen v sl s k = k (.int .i64 (n : Nat)) s) ∨ ∃ b, sl = false ∧ v = .string b ∧ kLen v sl s k = k (.int .i64 (lenT b.data.toList : Nat)) s := by
  cases v with
  | slice a n c => cases sl
                   · exact .inl rfl
                   · exact .inr (.inl ⟨a, n, c, rfl, rfl, rfl⟩)
  | string b => cases sl
                · exact .inr (.inr ⟨b, rfl, rfl, rfl⟩)
                · exact .inl rfl
  | _ => exact .inl rfl
theorem val_len {c : Call} {x : Operand} {f : E8 → Value} {t : TypeId} {ts : List TypeId} (sl : Bool) (ho : o.op = .call c) (hc : c.callee = .builtin .len) (h1 : c.args.toList = [x]) (h2 : c.argTypes.toList = t :: ts)
    (hs : sl = true → ∃ e, P.underlying t = some (.slice e)) (hs' : sl = false → P.underlying t = some .string) (hx : kOpd x = some f) : OkVal P o fun _ e s k => kLen (f e) sl s k := by
  intro call e E s k he
  rcases kLen_cases (f E) sl s k with h | ⟨a, n, cp, hsl, hv, h⟩ | ⟨b, hsl, hv, h⟩
  · exact .inl h
  · obtain ⟨el, hel⟩ := hs hsl
    refine .inr ⟨_, fun s' _ => ?_, h⟩
    simp only [xop, ho, xcall, hc, h1, h2, kOpd_ok he hx, hv, Option.bind_some, xlenOp, sliceElem, hel, Option.map_some]
  · refine .inr ⟨_, fun s' _ => ?_, h⟩
    simp only [xop, ho, xcall, hc, h1, h2, kOpd_ok he hx, hv, Option.bind_some, xlenOp, hs' hsl]
end Go.Proofs.Ytliidiceljdgmaa.Eng
