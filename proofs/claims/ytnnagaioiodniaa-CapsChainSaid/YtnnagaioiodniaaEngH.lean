/-
  The abstract machine: strings, comparisons, append, copy; what asks nobody.
-/
import Derived.Test.YtnnagaioiodniaaEngG
namespace Go.Proofs.Ytnnagaioiodniaa.Eng
open Go.RowKit

section
variable {P : Program} {r : Ren} {s s' : St} {w : World}

theorem bytesEq_iff : ∀ (x y : List UInt8), bytesEq x y = (x == y)
  | [], [] => rfl
  | [], _ :: _ => rfl
  | _ :: _, [] => rfl
  | a :: x, b :: y => by
    rw [bytesEq, bytesEq_iff x y, List.cons_beq_cons]
    congr 1
    cases h : Nat.beq a.toNat b.toNat
    · symm
      rw [beq_eq_false_iff_ne]
      intro e; subst e; rw [Nat.beq_refl] at h; cases h
    · have := Nat.eq_of_beq_eq_true h
      symm
      rw [beq_iff_eq]
      exact UInt8.toNat_inj.1 this
theorem bytesLt_iff : ∀ (x y : List UInt8), bytesLt x y = Op.bytesLess x y
  | [], [] => rfl
  | [], _ :: _ => rfl
  | _ :: _, [] => rfl
  | a :: x, b :: y => by
    rw [bytesLt, bytesLt_iff x y, Op.bytesLess]
    congr 1
    · rw [Bool.eq_iff_iff]
      simp [UInt8.lt_iff_toNat_lt]
    · congr 1
      cases h : Nat.beq a.toNat b.toNat
      · symm
        rw [beq_eq_false_iff_ne]
        intro e; subst e; rw [Nat.beq_refl] at h; cases h
      · have := Nat.eq_of_beq_eq_true h
        symm
        rw [beq_iff_eq]
        exact UInt8.toNat_inj.1 this
theorem toList_data (b : ByteArray) : b.toList = b.data.toList := by
  have := ByteArray.toList_mk b.data.toList
  simpa using this
theorem xstr_ok {op : BinOp} {a b : ByteArray} {v : Value} (h : xstr op a.data.toList b.data.toList = some v) (w : World) :
    (Op.stringOp op a b).run P w = .ok v w ∧ flat0 v = true := by
  unfold xstr at h
  simp only [lenT_eq] at h
  unfold Op.stringOp
  simp only [toList_data, ← bytesEq_iff, ← bytesLt_iff]
  split at h
  · cases hb : Nat.blt (a.data.toList.length + b.data.toList.length) big
    · rw [hb] at h; cases h
    rw [hb] at h
    simp only [cond_true, Option.some.injEq] at h
    subst h
    have hlt := big_blt.1 hb
    have ha : a.size = a.data.toList.length := by rw [Array.length_toList]; rfl
    have hb' : b.size = b.data.toList.length := by rw [Array.length_toList]; rfl
    have hap : a ++ b = ⟨⟨a.data.toList ++ b.data.toList⟩⟩ := by
      have := ByteArray.mk_append_mk a.data.toList b.data.toList
      simpa using this
    have hm : ¬ (((a.size + b.size : Nat) : Int) > IntKind.i64.max) := by
      have : IntKind.i64.max = 9223372036854775807 := by decide
      rw [this]
      unfold big at hlt
      omega
    simp only [if_neg hm, hap]
    exact ⟨rfl, rfl⟩
  all_goals first
    | (simp only [Option.some.injEq] at h; subst h; exact ⟨rfl, rfl⟩)
    | cases h

theorem kind_ptr {d : TypeDesc} {a : Option Addr} (h : kindOk d (.pointer a) = true) : ∃ e, d = .pointer e := by cases d <;> simp [kindOk] at h; exact ⟨_, rfl⟩
theorem kind_slice {d : TypeDesc} {a : Option Addr} {l c : Nat} (h : kindOk d (.slice a l c) = true) : ∃ e, d = .slice e := by cases d <;> simp [kindOk] at h; exact ⟨_, rfl⟩
theorem kind_nilFunc {d : TypeDesc} (h : kindOk d .nilFunc = true) : ∃ a b c, d = .func a b c := by cases d <;> simp [kindOk] at h; exact ⟨_, _, _, rfl⟩
theorem kind_func {d : TypeDesc} {f : Fn} {a b : Array Value} (h : kindOk d (.func f a b) = true) : ∃ a b c, d = .func a b c := by cases d <;> simp [kindOk] at h; exact ⟨_, _, _, rfl⟩
theorem run_eqNil {t : TypeId} {d : TypeDesc} {x y : Value} {p q : Bool} (hd : P.underlying t = some d) (k1 : kindOk d x = true) (k2 : kindOk d y = true) (hp : isNilV x = some p) (hq : isNilV y = some q) (k3 : (p || q) = true) (w : World) :
    (Op.equalIn (9999 + 1) t (r.val x) (r.val y)).run P w = .ok (p && q) w := by
  rw [Op.equalIn]
  simp only [Sem.run_bind, run_underlying hd, Result.andThen_ok]
  cases x with
  | pointer a =>
    obtain ⟨e, rfl⟩ := kind_ptr k1
    cases y with
    | pointer b =>
      simp only [isNilV, Option.some.injEq] at hp hq
      subst hp; subst hq
      rw [val_ptr, val_ptr]
      cases a <;> cases b <;> first | rfl | cases k3
    | _ => simp [kindOk] at k2
  | slice a l c =>
    obtain ⟨e, rfl⟩ := kind_slice k1
    cases y with
    | slice b l' c' =>
      simp only [isNilV, Option.some.injEq] at hp hq
      subst hp; subst hq
      rw [val_slice, val_slice]
      cases a <;> cases b <;> first | rfl | cases k3
    | _ => simp [kindOk] at k2
  | nilFunc =>
    obtain ⟨e1, e2, e3, rfl⟩ := kind_nilFunc k1
    simp only [isNilV, Option.some.injEq] at hp
    subst hp
    cases y with
    | nilFunc => simp only [isNilV, Option.some.injEq] at hq; subst hq; rw [val_nilFunc]; rfl
    | func f a b => simp only [isNilV, Option.some.injEq] at hq; subst hq; rw [val_nilFunc, val_func]; rfl
    | _ => simp [kindOk] at k2
  | func f a b =>
    obtain ⟨e1, e2, e3, rfl⟩ := kind_func k1
    simp only [isNilV, Option.some.injEq] at hp
    subst hp
    cases y with
    | nilFunc => simp only [isNilV, Option.some.injEq] at hq; subst hq; rw [val_nilFunc, val_func]; rfl
    | func f a b => simp only [isNilV, Option.some.injEq] at hq; subst hq; cases k3
    | _ => simp [kindOk] at k2
  | _ => simp [isNilV] at hp
theorem xeqNil_ok {t : TypeId} {x y : Value} {b : Bool} (h : xeqNil P t x y = some b) (w : World) : (Op.equal t (r.val x) (r.val y)).run P w = .ok b w := by
  unfold xeqNil at h
  obtain ⟨d, hd, h⟩ := Option.bind_eq_some_iff.1 h
  obtain ⟨p, hp, h⟩ := Option.bind_eq_some_iff.1 h
  obtain ⟨q, hq, h⟩ := Option.bind_eq_some_iff.1 h
  cases hb : (kindOk d x && kindOk d y && (p || q))
  · rw [hb] at h; cases h
  rw [hb] at h
  simp only [cond_true, Option.some.injEq] at h
  subst h
  rw [Bool.and_eq_true, Bool.and_eq_true] at hb
  exact run_eqNil hd hb.1.1 hb.1.2 hp hq hb.2 w

theorem xlen_ok {x : Value} {n : Nat} (h : xlen x = some n) (w : World) : (Builtin.lenOf (r.val x)).run P w = .ok n w := by
  unfold xlen at h
  simp only [lenT_eq] at h
  split at h
  · simp only [Option.some.injEq] at h; subst h; rw [val_slice]; rfl
  · simp only [Option.some.injEq] at h; subst h; rw [val_string, Array.length_toList]; rfl
  · cases h
theorem xfirst_ok {size n : Nat} {x : Value} {l : List Value} (h : xfirst s size n x = some l) (hg : Good r s w) (hx : bnd r.d x = true) :
    (Builtin.firstCells size n (r.val x)).run P w = .ok (l.map r.val).toArray w ∧ ∀ v ∈ l, bnd r.d v = true ∧ v.oneCell' = true := by
  unfold xfirst at h
  split at h
  · rename_i a l' c
    cases hb : Nat.beq (n * size) 0
    · rw [hb] at h
      simp only [cond_false] at h
      obtain ⟨h1, _, _, h2⟩ := rdCells_ok (P := P) h hg
      rw [val_slice, Option.map_some]
      exact ⟨h1, h2⟩
    · rw [hb] at h
      simp only [cond_true, Option.some.injEq] at h
      subst h
      refine ⟨?_, fun v hv => by cases hv⟩
      rw [val_slice, Option.map_some]
      simp only [Builtin.firstCells, Nat.eq_of_beq_eq_true hb]
      rfl
  · simp only [Option.some.injEq] at h
    subst h
    refine ⟨?_, fun v hv => by cases hv⟩
    rw [val_slice]
    rfl
  · rename_i b
    simp only [Option.some.injEq] at h
    subst h
    refine ⟨?_, fun v hv => by
      obtain ⟨c, _, rfl⟩ := List.mem_map.1 hv
      exact ⟨bnd_int _ _ _, rfl⟩⟩
    rw [val_string]
    simp only [Builtin.firstCells, Sem.run_pure]
    congr 1
    have hex : b.extract 0 n = ⟨⟨b.data.toList.take n⟩⟩ := by
      have := ByteArray.extract_mk b.data.toList 0 n
      simpa using this
    rw [hex]
    apply Array.ext'
    simp only [Array.toList_map, List.map_map, List.map_inj_left]
    simp [val_int]
  · cases h
theorem look_of_wr {a : Addr} {vs : List Value} (h : wrCells s a vs = some s') : s'.n = s.n := by
  unfold wrCells at h
  simp only [lenT_eq] at h
  split at h
  · cases h
  obtain ⟨k, _, h⟩ := Option.bind_eq_some_iff.1 h
  cases hc : (k.rw && hasN (a.off + vs.length) k.cells && oneC vs)
  · rw [hc] at h; cases h
  rw [hc] at h
  simp only [cond_true, Option.some.injEq] at h
  subst h
  rfl
theorem xcopy_ok {t ty : TypeId} {ts : Array TypeId} {dst src v : Value} (ht : ts[0]? = some t) (h : xcopy P s t dst src = some (v, s')) (hd : bnd r.d dst = true) (hx : bnd r.d src = true) (hg : Good r s w) :
    s'.O = s.O ∧ Yld P r s w (Builtin.copy_ ts ty #[r.val dst, r.val src]) v s' := by
  unfold xcopy at h
  simp only [lenT_eq] at h
  split at h
  · rename_i base dlen dcap
    obtain ⟨elem, he, h⟩ := Option.bind_eq_some_iff.1 h
    obtain ⟨size, hsz, h⟩ := Option.bind_eq_some_iff.1 h
    obtain ⟨m, hm, h⟩ := Option.bind_eq_some_iff.1 h
    obtain ⟨cells, hc, h⟩ := Option.bind_eq_some_iff.1 h
    obtain ⟨h1, h2⟩ := xfirst_ok (P := P) hc hg hx
    cases hb : Nat.beq cells.length (Nat.min m dlen * size)
    · rw [hb] at h; cases h
    rw [hb] at h
    simp only [cond_true] at h
    have hrun : ∀ (X : Sem Unit) (w' : World), (match (base.map r.addr) with | some a => storeCells a (cells.map r.val) | none => pure ()).run P w = .ok () w' →
        (Builtin.copy_ ts ty #[r.val (.slice base dlen dcap), r.val src]).run P w = .ok (.int .i64 (Nat.min m dlen : Nat)) w' := by
      intro _ w' hst
      rw [val_slice]
      simp only [Builtin.copy_, ht, List.getElem?_toArray, List.getElem?_cons_zero, List.getElem?_cons_succ, Sem.run_bind, run_underlying (sliceElem_ok he), Result.andThen_ok, xlen_ok hm, run_sizeP hsz, h1]
      cases base with
      | none =>
        simp only [Option.map_none, Sem.run_pure, Result.ok.injEq, true_and] at hst ⊢
        subst hst; exact ⟨rfl, rfl⟩
      | some a =>
        simp only [Option.map_some] at hst ⊢
        simp only [Sem.run_bind, hst, Result.andThen_ok, Sem.run_pure]
        rfl
    cases hb0 : Nat.beq cells.length 0
    · rw [hb0] at h
      simp only [cond_false] at h
      cases base with
      | none => cases h
      | some a =>
        simp only [] at h
        obtain ⟨s1, hs1, h⟩ := Option.map_eq_some_iff.1 h
        simp only [Prod.mk.injEq] at h
        obtain ⟨rfl, rfl⟩ := h
        obtain ⟨_, hO, w', hw, hto⟩ := wrCells_ok (P := P) hs1 hg fun v hv => (h2 v hv).1
        exact ⟨hO, r, w', by rw [val_int]; exact hrun (pure ()) w' hw, hto, bnd_int _ _ _⟩
    · rw [hb0] at h
      simp only [cond_true, Option.some.injEq, Prod.mk.injEq] at h
      obtain ⟨rfl, rfl⟩ := h
      have hnil : cells = [] := List.eq_nil_of_length_eq_zero (Nat.eq_of_beq_eq_true hb0)
      subst hnil
      refine ⟨rfl, r, w, by rw [val_int]; exact hrun (pure ()) w (by cases base <;> rfl), To.refl hg, bnd_int _ _ _⟩
  · cases h

def noZeros (P : Program) (ts : Array TypeId) : Prop :=
  ts[1]? = none ∨ ∃ t1 d, ts[1]? = some t1 ∧ P.underlying t1 = some d ∧ ∀ k, d ≠ .int k
theorem run_append_in {t ty elem : TypeId} {ts : Array TypeId} {size n sLen cap : Nat} {base : Option Addr} {x : Value} {new : Array Value} {w' : World}
    (ht : ts[0]? = some t) (hz : noZeros P ts) (he : P.underlying t = some (.slice elem)) (hsz : sizeP P elem = some size) (hn : ∀ w, (Builtin.lenOf x).run P w = .ok n w)
    (hnew : (Builtin.firstCells size n x).run P w = .ok new w) (hc : sLen + n ≤ cap)
    (hst : (match base with | some a => storeCells (a.add (sLen * size)) new.toList | none => pure ()).run P w = .ok () w') :
    (Builtin.append_ ts ty #[.slice base sLen cap, x]).run P w = .ok (.slice base (sLen + n) cap) w' := by
  rcases hz with hz | ⟨t1, d, hz, hd, hz'⟩
  all_goals
    cases base with
    | none =>
      simp only [Sem.run_pure, Result.ok.injEq, true_and] at hst
      subst hst
      simp only [Builtin.append_, ht, hz, List.getElem?_toArray, List.getElem?_cons_zero, List.getElem?_cons_succ, Sem.run_bind, run_underlying he, Result.andThen_ok, Sem.run_pure, run_sizeP hsz,
        Bool.false_eq_true, if_false, hn, if_pos hc, Bool.not_false, if_true, hnew]
      try (simp only [run_underlying hd, Result.andThen_ok]; rw [if_neg (by cases d <;> first | (exact absurd rfl (hz' _)) | (intro h; cases h))]; simp only [Result.andThen_ok, Sem.run_bind, Sem.run_pure, hn, if_pos hc]; rw [if_pos (by cases d <;> first | (exact absurd rfl (hz' _)) | (rfl))]; simp only [hnew, Result.andThen_ok])
    | some a =>
      simp only [] at hst
      simp only [Builtin.append_, ht, hz, List.getElem?_toArray, List.getElem?_cons_zero, List.getElem?_cons_succ, Sem.run_bind, run_underlying he, Result.andThen_ok, Sem.run_pure, run_sizeP hsz,
        Bool.false_eq_true, if_false, hn, if_pos hc, Bool.not_false, if_true, hnew, hst]
      try (simp only [run_underlying hd, Result.andThen_ok]; rw [if_neg (by cases d <;> first | (exact absurd rfl (hz' _)) | (intro h; cases h))]; simp only [Result.andThen_ok, Sem.run_bind, Sem.run_pure, hn, if_pos hc]; rw [if_pos (by cases d <;> first | (exact absurd rfl (hz' _)) | (rfl))]; simp only [hnew, Result.andThen_ok, hst])
theorem run_append_out {t ty elem : TypeId} {ts : Array TypeId} {size n sLen cap by_ : Nat} {base : Option Addr} {x z : Value} {new old : Array Value}
    (ht : ts[0]? = some t) (hz : noZeros P ts) (he : P.underlying t = some (.slice elem)) (hsz : sizeP P elem = some size) (hby : bytesP P elem = some by_) (hzv : ∀ w, (zeroValue elem).run P w = .ok z w)
    (hn : ∀ w, (Builtin.lenOf x).run P w = .ok n w)
    (hnew : ∀ w', w'.heap = w.heap → (Builtin.firstCells size n x).run P w' = .ok new w') (hold : ∀ w', w'.heap = w.heap → (Builtin.firstCells size sLen (.slice base sLen cap)).run P w' = .ok old w') (hc : ¬ sLen + n ≤ cap)
    (h63 : sLen + n < 4611686018427387904) (hb : (sLen + n) * by_ ≤ 1099511627776) :
    (Builtin.append_ ts ty #[.slice base sLen cap, x]).run P w = .ok (.slice (some ⟨w.heap.size, 0, none⟩) (sLen + n) (grownCap w (sLen + n) cap elem))
      { w with heap := w.heap.push (.cells (old ++ new ++ Builtin.zeroCells z.cells (grownCap w (sLen + n) cap elem - (sLen + n))) elem), drawn := w.drawn + 1 } := by
  obtain ⟨i, hi, rfl⟩ := Option.map_eq_some_iff.1 hby
  have hnext := nextslicecap_le (need := sLen + n) (old := cap) (by omega)
  have h48 : (Builtin.nextslicecap (sLen + n) cap * i.bytes > 2 ^ 48) = False := by
    have h1 := Nat.mul_le_mul_right i.bytes hnext
    rw [Nat.mul_assoc] at h1
    rw [eq_iff_iff, iff_false]
    omega
  have hmax : (((sLen + n : Nat) : Int) > IntKind.i64.max) = False := by
    have : IntKind.i64.max = 9223372036854775807 := by decide
    rw [this, eq_iff_iff, iff_false]
    omega
  have hch : (choose (.appendCap (sLen + n) cap elem)).run P w = .ok (grownCap w (sLen + n) cap elem) { w with drawn := w.drawn + 1 } := by
    rw [run_choose]; rfl
  have h1 := hold { w with drawn := w.drawn + 1 } rfl
  have h2 := hnew { w with drawn := w.drawn + 1 } rfl
  rcases hz with hz | ⟨t1, d, hz, hd, hz'⟩
  · simp only [Builtin.append_, ht, hz, List.getElem?_toArray, List.getElem?_cons_zero, List.getElem?_cons_succ, Sem.run_bind, run_underlying he, Result.andThen_ok, Sem.run_pure, run_sizeP hsz,
      Bool.false_eq_true, if_false, hn, if_neg hc, Bool.not_false, if_true, hmax, false_and, run_typeInfo hi, h48, hch, run_askRoom, h1, h2, hzv, newRow, run_newObj]
  · simp only [Builtin.append_, ht, hz, List.getElem?_toArray, List.getElem?_cons_zero, List.getElem?_cons_succ, Sem.run_bind, run_underlying he, Result.andThen_ok, Sem.run_pure, run_sizeP hsz, run_underlying hd]
    rw [if_neg (by cases d <;> first | (exact absurd rfl (hz' _)) | (intro h; cases h))]
    simp only [Result.andThen_ok, Sem.run_bind, Sem.run_pure, hn, if_neg hc, hmax, false_and, if_false, run_typeInfo hi, h48, hch, run_askRoom, h1]
    rw [if_pos (by cases d <;> first | (exact absurd rfl (hz' _)) | rfl)]
    simp only [Result.andThen_ok, Sem.run_bind, Sem.run_pure, h2, hzv, newRow, run_newObj]
end
end Go.Proofs.Ytnnagaioiodniaa.Eng
