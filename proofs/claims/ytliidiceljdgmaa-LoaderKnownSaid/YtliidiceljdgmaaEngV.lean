/-
  The fast machine answers what the machine answers. Here: temporaries, operands, cells.
-/
import Derived.Test.YtliidiceljdgmaaEngU
namespace Go.Proofs.Ytliidiceljdgmaa.Eng
open Go.RowKit

theorem bo_true {α : Type} (x y : α) : bo true x y = x := rfl
theorem bo_false {α : Type} (x y : α) : bo false x y = y := rfl
theorem bo_eq {α : Type} (b : Bool) (x y : α) : bo b x y = bif b then x else y := by cases b <;> rfl
/-- Where it does not fail, there was one. -/
theorem kOpt_cases {α : Type} (x : Option α) (k : α → Out) : kOpt x k = .bad ∨ ∃ a, x = some a ∧ kOpt x k = k a := by
  cases x
  · exact .inl rfl
  · exact .inr ⟨_, rfl, rfl⟩
theorem kRes_cases (x : Res) (k : Value → St → Out) : kRes x k = .bad ∨ ∃ v s, x = some (v, s) ∧ kRes x k = k v s := by
  cases x
  · exact .inl rfl
  · exact .inr ⟨_, _, rfl, rfl⟩

/-! Temporaries. -/
theorem s8_lt {α : Type} {i : Nat} {g : N8 α → α} (h : s8 i = some g) : i < 8 := by
  unfold s8 at h
  split at h <;> first | omega | cases h
theorem p8_lt {α : Type} {i : Nat} {p : α → N8 α → N8 α} (h : p8 i = some p) : i < 8 := by
  unfold p8 at h
  split at h <;> first | omega | cases h
theorem s8_p8 {α : Type} {i j : Nat} {g : N8 α → α} {p : α → N8 α → N8 α} (hg : s8 i = some g) (hp : p8 j = some p) (v : α) (x : N8 α) : g (p v x) = if i = j then v else g x := by
  have hi := s8_lt hg
  have hj := p8_lt hp
  have hi' : i = 0 ∨ i = 1 ∨ i = 2 ∨ i = 3 ∨ i = 4 ∨ i = 5 ∨ i = 6 ∨ i = 7 := by omega
  have hj' : j = 0 ∨ j = 1 ∨ j = 2 ∨ j = 3 ∨ j = 4 ∨ j = 5 ∨ j = 6 ∨ j = 7 := by omega
  rcases hi' with rfl | rfl | rfl | rfl | rfl | rfl | rfl | rfl <;> cases hg <;> rcases hj' with rfl | rfl | rfl | rfl | rfl | rfl | rfl | rfl <;> cases hp <;> rfl
theorem s8_n8 {α : Type} {i : Nat} {g : N8 α → α} (hg : s8 i = some g) (x : α) : g (n8 x) = x := by
  have hi := s8_lt hg
  have hi' : i = 0 ∨ i = 1 ∨ i = 2 ∨ i = 3 ∨ i = 4 ∨ i = 5 ∨ i = 6 ∨ i = 7 := by omega
  rcases hi' with rfl | rfl | rfl | rfl | rfl | rfl | rfl | rfl <;> cases hg <;> rfl
theorem s8_some {α : Type} {i : Nat} (h : i < 8) : ∃ g : N8 α → α, s8 i = some g := by
  have hi' : i = 0 ∨ i = 1 ∨ i = 2 ∨ i = 3 ∨ i = 4 ∨ i = 5 ∨ i = 6 ∨ i = 7 := by omega
  rcases hi' with rfl | rfl | rfl | rfl | rfl | rfl | rfl | rfl <;> exact ⟨_, rfl⟩
theorem kGet_some {t : Nat} {g : E8 → Value} (h : kGet t = some g) : ∃ p q r, s8 (t % 8) = some p ∧ s8 (t / 8 % 8) = some q ∧ s8 (t / 64) = some r ∧ g = fun e => p (q (r e)) := by
  unfold kGet at h
  obtain ⟨p, hp, h⟩ := Option.bind_eq_some_iff.1 h
  obtain ⟨q, hq, h⟩ := Option.bind_eq_some_iff.1 h
  obtain ⟨r, hr, h⟩ := Option.map_eq_some_iff.1 h
  exact ⟨p, q, r, hp, hq, hr, h.symm⟩
/-- What stands there. -/
def get8 (e : E8) (t : Nat) : Value := match kGet t with | some g => g e | none => undef
theorem get8_of {t : Nat} {g : E8 → Value} (h : kGet t = some g) (e : E8) : g e = get8 e t := by unfold get8; rw [h]
theorem get8_e80 (t : Nat) : get8 e80 t = undef := by
  unfold get8
  split
  · rename_i g h
    obtain ⟨p, q, r, hp, hq, hr, rfl⟩ := kGet_some h
    unfold e80
    simp only [s8_n8 hr, s8_n8 hq, s8_n8 hp]
  · rfl
theorem get8_put {t : Nat} {p : Value → E8 → E8} (h : kPut t = some p) (v : Value) (e : E8) (u : Nat) : get8 (p v e) u = if u = t then v else get8 e u := by
  unfold kPut at h
  obtain ⟨p1, h1, h⟩ := Option.bind_eq_some_iff.1 h
  obtain ⟨p2, h2, h⟩ := Option.bind_eq_some_iff.1 h
  obtain ⟨p3, h3, h⟩ := Option.bind_eq_some_iff.1 h
  obtain ⟨q2, h4, h⟩ := Option.bind_eq_some_iff.1 h
  obtain ⟨q3, h5, rfl⟩ := Option.map_eq_some_iff.1 h
  have ht := s8_lt h5
  unfold get8
  split
  · rename_i g hg
    obtain ⟨a, b, c, ha, hb, hc, rfl⟩ := kGet_some hg
    simp only []
    rw [s8_p8 hc h3]
    by_cases e1 : u / 64 = t / 64
    · rw [if_pos e1, s8_p8 hb h2]
      rw [e1, h5] at hc
      cases hc
      by_cases e2 : u / 8 % 8 = t / 8 % 8
      · rw [if_pos e2, s8_p8 ha h1]
        rw [e2, h4] at hb
        cases hb
        by_cases e3 : u % 8 = t % 8
        · rw [if_pos e3, if_pos (by omega)]
        · rw [if_neg e3, if_neg (by omega)]
      · rw [if_neg e2, if_neg (by omega)]
    · rw [if_neg e1, if_neg (by omega)]
  · rename_i hg
    by_cases e : u = t
    · subst e
      obtain ⟨a, ha⟩ := s8_some (α := Value) (i := u % 8) (by omega)
      unfold kGet at hg
      rw [ha, h4, h5] at hg
      cases hg
    · rw [if_neg e]

/-- The same temporaries. -/
def SameE (e : Env) (x : E8) : Prop := ∀ t, getE e t = get8 x t
theorem SameE.put {e : Env} {x : E8} (h : SameE e x) {t : Nat} {p : Value → E8 → E8} (hp : kPut t = some p) (v : Value) : SameE (putE e t v) (p v x) := by
  intro u
  rw [getE_putE, get8_put hp, h u]
theorem kGet_lt {t : Nat} {g : E8 → Value} (h : kGet t = some g) : t < 512 := by
  obtain ⟨p, q, r, hp, hq, hr, rfl⟩ := kGet_some h
  have := s8_lt hr
  omega
theorem getD_map {α β : Type} (d : β) (f : α → β) : ∀ (l : List α) (n : Nat), getD' d (l.map f) n = match l[n]? with | some x => f x | none => d
  | [], n => by simp [getD']
  | x :: l, 0 => by simp [getD']
  | x :: l, n + 1 => by simp [getD', getD_map d f l n]
theorem sameE_toE (x : E8) : SameE (toE x) x := by
  intro t
  unfold getE toE
  rw [getD_map]
  by_cases h : t < 512
  · rw [List.getElem?_range (by omega)]
    simp only []
    rw [getD_map, List.getElem?_range (by omega)]
    simp only []
    unfold get8'
    rw [show 16 * (t / 16) + t % 16 = t by omega]
    rfl
  · rw [List.getElem?_eq_none (by simp; omega)]
    simp only []
    unfold get8
    cases hg : kGet t with
    | none => simp [getD']
    | some g => exact absurd (kGet_lt hg) h

theorem kOpd_ok {e : Env} {x : E8} (h : SameE e x) {o : Operand} {a : E8 → Value} (ha : kOpd o = some a) : opd e o = some (a x) := by
  cases o with
  | tmp t =>
    simp only [opd]
    rw [h t, get8_of ha]
  | const v =>
    simp only [kOpd] at ha
    obtain ⟨h1, h2⟩ := bif_some ha
    cases h2
    simp [opd, h1]
  | func f => cases ha; rfl
  | global g => cases ha
theorem kOpds_ok {e : Env} {x : E8} (h : SameE e x) : ∀ {l : List Operand} {a : E8 → List Value}, kOpds l = some a → opds e l = some (a x)
  | [], a, ha => by cases ha; rfl
  | o :: l, a, ha => by
    simp only [kOpds] at ha
    obtain ⟨b, hb, ha⟩ := Option.bind_eq_some_iff.1 ha
    obtain ⟨c, hc, rfl⟩ := Option.map_eq_some_iff.1 ha
    simp [opds, kOpd_ok h hb, kOpds_ok h hc]
theorem kOpdsN_ok {e : Env} {x : E8} (h : SameE e x) : ∀ {l : List (Nat × Operand)} {a : E8 → List (Nat × Value)}, kOpdsN l = some a → opdsN e l = some (a x)
  | [], a, ha => by cases ha; rfl
  | o :: l, a, ha => by
    simp only [kOpdsN] at ha
    obtain ⟨b, hb, ha⟩ := Option.bind_eq_some_iff.1 ha
    obtain ⟨c, hc, rfl⟩ := Option.map_eq_some_iff.1 ha
    simp [opdsN, kOpd_ok h hb, kOpdsN_ok h hc]
theorem kOpdo_ok {e : Env} {x : E8} (h : SameE e x) {o : Option Operand} {a : E8 → Option Value} (ha : kOpdo o = some a) : opdo e o = some (a x) := by
  cases o with
  | none => cases ha; rfl
  | some o =>
    simp only [kOpdo] at ha
    obtain ⟨b, hb, rfl⟩ := Option.map_eq_some_iff.1 ha
    simp [opdo, kOpd_ok h hb]

/-! An operation knows the temporaries by its operands alone. -/
theorem opd_congr {e e' : Env} (h : ∀ t, getE e t = getE e' t) : opd e = opd e' := by
  funext x
  cases x <;> simp [opd, h]
theorem opds_congr {e e' : Env} (h : opd e = opd e') : opds e = opds e' := by
  funext l
  induction l with
  | nil => rfl
  | cons x l ih => simp [opds, h, ih]
theorem opdsN_congr {e e' : Env} (h : opd e = opd e') : opdsN e = opdsN e' := by
  funext l
  induction l with
  | nil => rfl
  | cons x l ih => simp [opdsN, h, ih]
theorem opdo_congr {e e' : Env} (h : opd e = opd e') : opdo e = opdo e' := by
  funext x
  cases x <;> simp [opdo, h]
theorem xop_congr {P : Program} {call : CallK} {e e' : Env} {s : St} {o : Oper} (h : ∀ t, getE e t = getE e' t) : xop P call e s o = xop P call e' s o := by
  have h1 := opd_congr h
  have h2 := opds_congr h1
  have h3 := opdsN_congr h1
  have h4 := opdo_congr h1
  have h5 : opT e = opT e' := by funext x; simp [opT, h1]
  have h6 : xpure P e = xpure P e' := by funext s o; simp only [xpure, h1, h5]
  have h6' : xint P e = xint P e' := by funext s o op i a j b; simp only [xint, h6]
  have h7 : xbin P e = xbin P e' := by funext s o op t x y; simp only [xbin, h6, h6']
  have h8 : xconvert P e = xconvert P e' := by funext s o op t x; simp only [xconvert, h6]
  have h9 : xlenOp P e = xlenOp P e' := by funext s o op t; simp only [xlenOp, h6]
  have h10 : xcall P call e = xcall P call e' := by funext s o c; simp only [xcall, h1, h2, h6, h9]
  simp only [xop, h1, h2, h3, h4, h6, h7, h8, h10]
theorem xresults_congr {P : Program} {e e' : Env} {s : St} (h : ∀ t, getE e t = getE e' t) : ∀ l, xresults P e s l = xresults P e' s l
  | [] => rfl
  | .tmp t :: l => by simp only [xresults, h, xresults_congr h l]
  | .cell a t :: l => by simp only [xresults, h, xresults_congr h l]

/-! Cells. -/
theorem lookK_eq (g : Nat) (k : Blk → Out) : ∀ h : Heap, lookK h g k = match look h g with | some b => k b | none => .bad
  | [] => rfl
  | x :: h => by
    show bo (Nat.beq x.1 g) (k x.2) (lookK h g k) = _
    rw [bo_eq, look, lookK_eq g k h]
    cases Nat.beq x.1 g <;> rfl
theorem updK_eq (g : Nat) (cs : List Value) : ∀ h : Heap, updK h g cs = upd h g cs
  | [] => rfl
  | x :: h => by
    show bo (Nat.beq x.1 g) ((x.1, { x.2 with cells := cs }) :: updK h g cs) (x :: updK h g cs) = _
    rw [bo_eq, upd, updK_eq g cs h]
theorem nthK_eq (k : Value → Out) : ∀ (n : Nat) (l : List Value), nthK n k l = match l[n]? with | some v => k v | none => .bad
  | 0, [] => rfl
  | 0, v :: l => rfl
  | n + 1, [] => rfl
  | n + 1, v :: l => by
    show nthK n k l = _
    rw [nthK_eq k n l]
    simp
theorem takeK_eq : ∀ (n : Nat) (k : List Value → Out) (l : List Value), takeK n k l = if n ≤ l.length then k (l.take n) else .bad
  | 0, k, l => by rw [if_pos (Nat.zero_le _)]; rfl
  | n + 1, k, [] => by simp [takeK]
  | n + 1, k, v :: l => by
    show takeK n (fun r => k (v :: r)) l = _
    rw [takeK_eq n]
    simp
theorem dropK_eq (k : List Value → Out) : ∀ (n : Nat) (l : List Value), dropK n k l = if n ≤ l.length then k (l.drop n) else .bad
  | 0, l => by rw [if_pos (Nat.zero_le _)]; rfl
  | n + 1, [] => by simp [dropK]
  | n + 1, v :: l => by
    show dropK n k l = _
    rw [dropK_eq k n l]
    simp
theorem setK_eq : ∀ (n : Nat) (vs l : List Value), setK n vs l = setAt n vs l
  | 0, [], [] => rfl
  | 0, v :: vs, [] => rfl
  | n + 1, vs, [] => rfl
  | 0, [], x :: l => rfl
  | 0, v :: vs, x :: l => by
    show v :: setK 0 vs l = _
    rw [setK_eq 0 vs l, setAt]
  | n + 1, vs, x :: l => by
    show x :: setK n vs l = _
    rw [setK_eq n vs l, setAt]
theorem allK_eq (p : Value → Bool) : ∀ l : List Value, allK p l = l.all p
  | [] => rfl
  | x :: l => by
    show bo (p x) (allK p l) false = _
    rw [bo_eq, allK_eq p l, List.all_cons]
    cases p x <;> rfl
theorem lenK_eq : ∀ (n : Nat) (l : List Value), lenK n l = Nat.beq l.length n
  | 0, [] => rfl
  | 0, _ :: l => rfl
  | n + 1, [] => rfl
  | n + 1, _ :: l => by
    show lenK n l = _
    rw [lenK_eq n l]
    rfl
theorem cellsK_eq (v : Value) : cellsK v = v.cells.toList := by
  cases v <;> rfl
theorem plain_eq (a : Addr) (k : Out) : plain a k = match a.spot with | none => k | some _ => .bad := by
  unfold plain
  cases a.spot <;> rfl
theorem hasN_le : ∀ (n : Nat) (l : List Value), hasN n l = true ↔ n ≤ l.length
  | 0, l => by simp [hasN]
  | n + 1, [] => by simp [hasN]
  | n + 1, v :: l => by simp [hasN, hasN_le n l]
theorem rd1_cases (s : St) (a : Addr) (k : Value → Out) : rd1 s a k = .bad ∨ ∃ v, rdCells s a 1 = some [v] ∧ rd1 s a k = k v := by
  unfold rd1 rdCells
  rw [plain_eq]
  cases a.spot with
  | some _ => exact .inl rfl
  | none =>
    simp only [lookK_eq]
    cases look s.h a.block with
    | none => exact .inl rfl
    | some b =>
      simp only [nthK_eq]
      cases hv : b.cells[a.off]? with
      | none => exact .inl rfl
      | some v =>
        have hlt := (List.getElem?_eq_some_iff.1 hv).1
        refine .inr ⟨v, ?_, rfl⟩
        simp only [Option.bind_some, (hasN_le _ _).2 (show a.off + 1 ≤ b.cells.length from hlt), cond_true]
        rw [List.drop_eq_getElem_cons hlt]
        simp only [List.take_succ_cons, List.take_zero, (List.getElem?_eq_some_iff.1 hv).2]
theorem rdN_cases (s : St) (a : Addr) (n : Nat) (k : List Value → Out) : rdN s a n k = .bad ∨ ∃ l, rdCells s a n = some l ∧ rdN s a n k = k l := by
  unfold rdN rdCells
  rw [plain_eq]
  cases a.spot with
  | some _ => exact .inl rfl
  | none =>
    simp only [lookK_eq]
    cases look s.h a.block with
    | none => exact .inl rfl
    | some b =>
      simp only [dropK_eq, takeK_eq, List.length_drop]
      by_cases h1 : a.off ≤ b.cells.length
      · rw [if_pos h1]
        by_cases h2 : n ≤ b.cells.length - a.off
        · rw [if_pos h2]
          refine .inr ⟨_, ?_, rfl⟩
          simp only [Option.bind_some, (hasN_le _ _).2 (show a.off + n ≤ b.cells.length by omega), cond_true]
        · rw [if_neg h2]; exact .inl rfl
      · rw [if_neg h1]; exact .inl rfl
theorem wrK_cases (s : St) (a : Addr) (n : Nat) (vs : List Value) (hn : vs.length = n) (k : St → Out) : wrK s a n vs k = .bad ∨ ∃ s', wrCells s a vs = some s' ∧ wrK s a n vs k = k s' := by
  unfold wrK wrCells
  rw [plain_eq]
  cases a.spot with
  | some _ => exact .inl rfl
  | none =>
    simp only [lookK_eq]
    cases look s.h a.block with
    | none => exact .inl rfl
    | some b =>
      simp only [bo_eq, Option.bind_some]
      cases b.rw with
      | false => exact .inl rfl
      | true =>
        simp only [cond_true]
        rw [allK_eq, allK_eq]
        cases hc : vs.all fun v => v.oneCell' with
        | false => exact .inl rfl
        | true =>
          simp only [cond_true, dropK_eq, takeK_eq, List.length_drop]
          by_cases h1 : a.off ≤ b.cells.length
          · rw [if_pos h1]
            by_cases h2 : n ≤ b.cells.length - a.off
            · rw [if_pos h2]
              refine .inr ⟨_, ?_, rfl⟩
              have h3 : oneC vs = true := hc
              simp only [lenT_eq, hn, (hasN_le _ _).2 (show a.off + n ≤ b.cells.length by omega), h3, Bool.and_true, cond_true, updK_eq, setK_eq]
            · rw [if_neg h2]; exact .inl rfl
          · rw [if_neg h1]; exact .inl rfl
end Go.Proofs.Ytliidiceljdgmaa.Eng
