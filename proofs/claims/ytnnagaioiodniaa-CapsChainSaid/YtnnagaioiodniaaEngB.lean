/-
  The abstract machine: its words' laws.
-/
import Derived.Test.YtnnagaioiodniaaEngA
namespace Go.Proofs.Ytnnagaioiodniaa.Eng
open Go.RowKit

section
variable (r : Ren)
theorem val_agg (cs : Array Value) : r.val (.agg cs) = .agg (cs.map r.val) := by rw [Ren.val]
theorem val_tuple (cs : Array Value) : r.val (.tuple cs) = .tuple (cs.map r.val) := by rw [Ren.val]
theorem val_func (fn : Fn) (a b : Array Value) : r.val (.func fn a b) = .func fn (a.map r.val) (b.map r.val) := by rw [Ren.val]
theorem val_iface (t : TypeId) (v : Value) : r.val (.iface t v) = .iface t (r.val v) := by rw [Ren.val]
theorem val_ptr (a : Option Addr) : r.val (.pointer a) = .pointer (a.map r.addr) := by rw [Ren.val]
theorem val_slice (a : Option Addr) (l c : Nat) : r.val (.slice a l c) = .slice (a.map r.addr) l (r.cap c) := by rw [Ren.val]
theorem val_int (k : IntKind) (n : Int) : r.val (.int k n) = .int k n := by rw [Ren.val] <;> simp
theorem val_bool (b : Bool) : r.val (.bool b) = .bool b := by rw [Ren.val] <;> simp
theorem val_string (b : ByteArray) : r.val (.string b) = .string b := by rw [Ren.val] <;> simp
theorem val_nilFunc : r.val .nilFunc = .nilFunc := by rw [Ren.val] <;> simp
theorem val_undef : r.val undef = undef := by simp [undef, val_tuple]
theorem val_flat0 {v : Value} (h : flat0 v = true) : r.val v = v := by
  unfold flat0 at h
  split at h <;> first
    | (rw [Ren.val]; simp; done)
    | (rw [Ren.val] <;> simp; done)
    | (simp [val_slice, Ren.cap, h]; done)
    | (cases h; done)
theorem map_flat0 {l : List Value} (h : l.all flat0 = true) : l.map r.val = l := by
  rw [List.map_congr_left (g := id)]
  · simp
  · intro v hv; exact val_flat0 r (List.all_eq_true.1 h v hv)
theorem arr_map {l : Array Value} (h : l.toList.map r.val = l.toList) : l.map r.val = l := by
  apply Array.ext'; simpa using h
theorem val_flat1 {v : Value} (h : flat1 v = true) : r.val v = v := by
  unfold flat1 at h
  split at h
  · rw [val_agg, arr_map r (map_flat0 r h)]
  · exact val_flat0 r h
theorem val_flat2 {v : Value} (h : flat2 v = true) : r.val v = v := by
  unfold flat2 at h
  split at h
  · rename_i vs
    rw [val_tuple, arr_map r]
    rw [List.map_congr_left (g := id)]
    · simp
    · intro v hv; exact val_flat1 r (List.all_eq_true.1 h v hv)
  · exact val_flat1 r h
theorem val_cells (v : Value) : (r.val v).cells = v.cells.map r.val := by
  cases v <;> (try (simp [val_agg, Value.cells]; done)) <;> rw [Ren.val] <;> (try simp [Value.cells]) <;> (rw [Ren.val] <;> simp)
theorem val_oneCell (v : Value) : (r.val v).oneCell' = v.oneCell' := by
  cases v <;> (try (simp [val_agg, val_tuple, Value.oneCell']; done)) <;> rw [Ren.val] <;> simp [Value.oneCell']
end

theorem bndA_mono {n m : Nat → Bool} (h : ∀ g, n g = true → m g = true) {a : Addr} (hb : bndA n a = true) : bndA m a = true := by
  unfold bndA at *
  simp only [Bool.and_eq_true] at *
  obtain ⟨h1, h2⟩ := hb
  refine ⟨h _ h1, ?_⟩
  cases hs : a.spot with
  | none => rfl
  | some k => rw [hs] at h2; exact h k h2
theorem bnd_agg (n : Nat → Bool) (cs : Array Value) : bnd n (.agg cs) = cs.all (bnd n) := by rw [bnd]; simp
theorem bnd_tuple (n : Nat → Bool) (cs : Array Value) : bnd n (.tuple cs) = cs.all (bnd n) := by rw [bnd]; simp
theorem bnd_func (n : Nat → Bool) (fn : Fn) (a b : Array Value) : bnd n (.func fn a b) = ((match fn with | .yield _ => false | _ => true) && a.all (bnd n) && b.all (bnd n)) := by
  cases fn <;> (rw [bnd] <;> simp)
theorem bnd_ptr (n : Nat → Bool) (a : Addr) : bnd n (.pointer (some a)) = bndA n a := by rw [bnd]
theorem bnd_slice (n : Nat → Bool) (a : Option Addr) (l c : Nat) : bnd n (.slice a l c) = ((match a with | some a => bndA n a | none => true) && (Nat.blt c big || n (c - big))) := by
  cases a <;> (conv => lhs; unfold bnd) <;> rfl
theorem bnd_iface (n : Nat → Bool) (t : TypeId) (v : Value) : bnd n (.iface t v) = bnd n v := by rw [bnd]
theorem bnd_flat0 (n : Nat → Bool) {v : Value} (h : flat0 v = true) : bnd n v = true := by
  unfold flat0 at h
  split at h <;> first
    | (rw [bnd] <;> simp; done)
    | (rw [bnd_slice]; simp [h]; done)
    | (cases h; done)
theorem bnd_flat1 (n : Nat → Bool) {v : Value} (h : flat1 v = true) : bnd n v = true := by
  unfold flat1 at h
  split at h
  · rw [bnd_agg, Array.all_eq_true_iff_forall_mem]
    intro v hv
    exact bnd_flat0 n (List.all_eq_true.1 h v (by simpa using hv))
  · exact bnd_flat0 n h
theorem bnd_flat2 (n : Nat → Bool) {v : Value} (h : flat2 v = true) : bnd n v = true := by
  unfold flat2 at h
  split at h
  · rw [bnd_tuple, Array.all_eq_true_iff_forall_mem]
    intro v hv
    exact bnd_flat1 n (List.all_eq_true.1 h v (by simpa using hv))
  · exact bnd_flat1 n h
theorem bnd_int (n : Nat → Bool) (k : IntKind) (i : Int) : bnd n (.int k i) = true := bnd_flat0 n rfl
theorem bnd_bool (n : Nat → Bool) (b : Bool) : bnd n (.bool b) = true := bnd_flat0 n rfl
theorem bnd_string (n : Nat → Bool) (b : ByteArray) : bnd n (.string b) = true := bnd_flat0 n rfl
theorem bnd_undef (n : Nat → Bool) : bnd n undef = true := bnd_flat2 n rfl
theorem bnd_ptr0 {n : Nat → Bool} {g o : Nat} (h : n g = true) : bnd n (ptr g o) = true := by
  unfold ptr; rw [bnd_ptr]; simp [bndA, h]

theorem bnd_mono {n m : Nat → Bool} (h : ∀ g, n g = true → m g = true) : ∀ v : Value, bnd n v = true → bnd m v = true
  | .pointer (some a), hb => by rw [bnd_ptr] at *; exact bndA_mono h hb
  | .pointer none, _ => bnd_flat0 m rfl
  | .slice a l c, hb => by
    rw [bnd_slice, Bool.and_eq_true] at *
    refine ⟨?_, by
      have h2 := hb.2
      rw [Bool.or_eq_true] at h2 ⊢
      exact h2.imp id (h _)⟩
    cases a with
    | none => rfl
    | some a => exact bndA_mono h hb.1
  | .func fn a b, hb => by
    rw [bnd_func, Bool.and_eq_true, Bool.and_eq_true] at *
    refine ⟨⟨hb.1.1, ?_⟩, ?_⟩
    · exact Array.all_eq_true_iff_forall_mem.2 fun v hv => bnd_mono h v (Array.all_eq_true_iff_forall_mem.1 hb.1.2 v hv)
    · exact Array.all_eq_true_iff_forall_mem.2 fun v hv => bnd_mono h v (Array.all_eq_true_iff_forall_mem.1 hb.2 v hv)
  | .iface t v, hb => by rw [bnd_iface] at *; exact bnd_mono h v hb
  | .agg cs, hb => by
    rw [bnd_agg, Array.all_eq_true_iff_forall_mem] at *
    exact fun v hv => bnd_mono h v (hb v hv)
  | .tuple cs, hb => by
    rw [bnd_tuple, Array.all_eq_true_iff_forall_mem] at *
    exact fun v hv => bnd_mono h v (hb v hv)
  | .map (some _), hb => by rw [bnd] at hb; cases hb
  | .map none, _ => bnd_flat0 m rfl
  | .chan (some _), hb => by rw [bnd] at hb; cases hb
  | .chan none, _ => bnd_flat0 m rfl
  | .bool _, _ => bnd_flat0 m rfl
  | .int _ _, _ => bnd_flat0 m rfl
  | .float _ _, _ => bnd_flat0 m rfl
  | .complex _ _ _, _ => bnd_flat0 m rfl
  | .string _, _ => bnd_flat0 m rfl
  | .nilFunc, _ => bnd_flat0 m rfl
  | .nilIface, _ => bnd_flat0 m rfl
termination_by v => SizeOf.sizeOf v
decreasing_by
  all_goals simp_wf
  all_goals (first | omega | (have := Array.sizeOf_lt_of_mem hv; omega))

/-- What stands for something stands for the same. -/
structure Ext (r r' : Ren) : Prop where
  d : ∀ g, r.d g = true → r'.d g = true
  b : ∀ g, r.d g = true → r'.b g = r.b g
  o : ∀ g, r.d g = true → r'.o g = r.o g
  c : ∀ g, r.d g = true → r'.c g = r.c g
theorem Ext.refl (r : Ren) : Ext r r := ⟨fun _ h => h, fun _ _ => rfl, fun _ _ => rfl, fun _ _ => rfl⟩
theorem Ext.trans {r s t : Ren} (h : Ext r s) (h' : Ext s t) : Ext r t :=
  ⟨fun g hg => h'.d g (h.d g hg), fun g hg => (h'.b g (h.d g hg)).trans (h.b g hg), fun g hg => (h'.o g (h.d g hg)).trans (h.o g hg), fun g hg => (h'.c g (h.d g hg)).trans (h.c g hg)⟩

theorem addr_ext {r r' : Ren} (h : Ext r r') {a : Addr} (hb : bndA r.d a = true) : r'.addr a = r.addr a := by
  unfold bndA at hb
  simp only [Bool.and_eq_true] at hb
  obtain ⟨h1, h2⟩ := hb
  unfold Ren.addr
  rw [h.b _ h1]
  cases hs : a.spot with
  | none => rfl
  | some k =>
    rw [hs] at h2
    simp only []
    rw [h.o _ h2]
theorem cap_ext {r r' : Ren} (h : Ext r r') {c : Nat} (hc : (Nat.blt c big || r.d (c - big)) = true) : r'.cap c = r.cap c := by
  unfold Ren.cap
  cases hb : Nat.blt c big
  · rw [hb] at hc
    simp only [cond_false]
    exact h.c _ (by simpa using hc)
  · rfl
theorem val_ext {r r' : Ren} (h : Ext r r') : ∀ v : Value, bnd r.d v = true → r'.val v = r.val v
  | .pointer (some a), hb => by rw [bnd_ptr] at hb; rw [val_ptr, val_ptr, Option.map_some, Option.map_some, addr_ext h hb]
  | .pointer none, _ => by rw [val_ptr, val_ptr]; rfl
  | .slice a l c, hb => by
    rw [bnd_slice, Bool.and_eq_true] at hb
    rw [val_slice, val_slice, cap_ext h hb.2]
    cases a with
    | none => rfl
    | some a => rw [Option.map_some, Option.map_some, addr_ext h hb.1]
  | .func fn a b, hb => by
    rw [bnd_func, Bool.and_eq_true, Bool.and_eq_true] at hb
    rw [val_func, val_func, Array.map_congr_left fun v hv => val_ext h v (Array.all_eq_true_iff_forall_mem.1 hb.1.2 v hv),
      Array.map_congr_left fun v hv => val_ext h v (Array.all_eq_true_iff_forall_mem.1 hb.2 v hv)]
  | .iface t v, hb => by rw [bnd_iface] at hb; rw [val_iface, val_iface, val_ext h v hb]
  | .agg cs, hb => by
    rw [bnd_agg, Array.all_eq_true_iff_forall_mem] at hb
    rw [val_agg, val_agg, Array.map_congr_left fun v hv => val_ext h v (hb v hv)]
  | .tuple cs, hb => by
    rw [bnd_tuple, Array.all_eq_true_iff_forall_mem] at hb
    rw [val_tuple, val_tuple, Array.map_congr_left fun v hv => val_ext h v (hb v hv)]
  | .map (some _), hb => by rw [bnd] at hb; cases hb
  | .map none, _ => by rw [val_flat0 r' rfl, val_flat0 r rfl]
  | .chan (some _), hb => by rw [bnd] at hb; cases hb
  | .chan none, _ => by rw [val_flat0 r' rfl, val_flat0 r rfl]
  | .bool _, _ => by rw [val_flat0 r' rfl, val_flat0 r rfl]
  | .int _ _, _ => by rw [val_flat0 r' rfl, val_flat0 r rfl]
  | .float _ _, _ => by rw [val_flat0 r' rfl, val_flat0 r rfl]
  | .complex _ _ _, _ => by rw [val_flat0 r' rfl, val_flat0 r rfl]
  | .string _, _ => by rw [val_flat0 r' rfl, val_flat0 r rfl]
  | .nilFunc, _ => by rw [val_flat0 r' rfl, val_flat0 r rfl]
  | .nilIface, _ => by rw [val_flat0 r' rfl, val_flat0 r rfl]
termination_by v => SizeOf.sizeOf v
decreasing_by
  all_goals simp_wf
  all_goals (first | omega | (have := Array.sizeOf_lt_of_mem hv; omega))

theorem pureRun_run {P : Program} {α : Type} : ∀ (x : Sem α) (a : α), pureRun P x = some a → ∀ w, x.run P w = .ok a w
  | .pure b, a, h, w => by simp only [pureRun, Option.some.injEq] at h; subst h; rfl
  | .program k, a, h, w => by simp only [pureRun] at h; simp only [Sem.run]; exact pureRun_run (k P) a h w
  | .mark _ k, a, h, w => by simp only [pureRun] at h; simp only [Sem.run]; exact pureRun_run k a h w
  | .load .., a, h, w => by simp [pureRun] at h
  | .store .., a, h, w => by simp [pureRun] at h
  | .new .., a, h, w => by simp [pureRun] at h
  | .shape .., a, h, w => by simp [pureRun] at h
  | .freeze .., a, h, w => by simp [pureRun] at h
  | .frozen .., a, h, w => by simp [pureRun] at h
  | .getObj .., a, h, w => by simp [pureRun] at h
  | .setObj .., a, h, w => by simp [pureRun] at h
  | .choose .., a, h, w => by simp [pureRun] at h
  | .sys .., a, h, w => by simp [pureRun] at h
  | .halt _, a, h, w => by simp [pureRun] at h

theorem lenA_eq {α : Type} : ∀ (l : List α) (n : Nat), lenA l n = l.length + n
  | [], n => by simp [lenA]
  | _ :: l, n => by rw [lenA, Nat.beq_refl, cond_true, lenA_eq l (n + 1), List.length_cons]; omega
theorem lenT_eq {α : Type} (l : List α) : lenT l = l.length := by unfold lenT; rw [lenA_eq]; rfl
theorem getD_nil {α : Type} (d : α) (j : Nat) : getD' d [] j = d := by cases j <;> rfl
theorem getD_setD {α : Type} (d : α) : ∀ (l : List α) (i j : Nat) (v : α), getD' d (setD' d l i v) j = if j = i then v else getD' d l j
  | [], 0, 0, v => by simp [setD', getD']
  | [], 0, j + 1, v => by simp [setD', getD']
  | [], i + 1, 0, v => by simp [setD', getD']
  | [], i + 1, j + 1, v => by simp [setD', getD', getD_setD d [] i j v]
  | x :: l, 0, 0, v => by simp [setD', getD']
  | x :: l, 0, j + 1, v => by simp [setD', getD']
  | x :: l, i + 1, 0, v => by simp [setD', getD']
  | x :: l, i + 1, j + 1, v => by simp [setD', getD', getD_setD d l i j v]
theorem getE_putE (e : Env) (t u : Nat) (v : Value) : getE (putE e t v) u = if u = t then v else getE e u := by
  unfold getE putE
  rw [getD_setD]
  by_cases h : u / 16 = t / 16
  · rw [if_pos h, getD_setD, h]
    by_cases h' : u % 16 = t % 16
    · have : u = t := by omega
      subst this; simp
    · have : u ≠ t := fun e => h' (by rw [e])
      simp [h', this]
  · have : u ≠ t := fun e => h (by rw [e])
    rw [if_neg h, if_neg this]

theorem hasN_iff : ∀ (n : Nat) (l : List Value), hasN n l = true ↔ n ≤ l.length
  | 0, l => by simp [hasN]
  | n + 1, [] => by simp [hasN]
  | n + 1, x :: l => by simp [hasN, hasN_iff n l]
theorem setAt_length : ∀ (l : List Value) (n : Nat) (vs : List Value), (setAt n vs l).length = l.length
  | [], n, vs => by unfold setAt; cases n <;> cases vs <;> rfl
  | x :: l, 0, [] => by simp [setAt]
  | x :: l, 0, v :: vs => by simp [setAt, setAt_length l 0 vs]
  | x :: l, n + 1, vs => by simp [setAt, setAt_length l n vs]
theorem setAt_get : ∀ (l : List Value) (n : Nat) (vs : List Value) (j : Nat), n + vs.length ≤ l.length →
    (setAt n vs l)[j]? = if n ≤ j ∧ j < n + vs.length then vs[j - n]? else l[j]?
  | [], n, vs, j, h => by
    have : vs = [] := by cases vs with | nil => rfl | cons => simp at h
    subst this
    simp at h; subst h
    simp [setAt]
  | x :: l, 0, [], j, h => by simp [setAt]
  | x :: l, 0, v :: vs, 0, h => by simp [setAt]
  | x :: l, 0, v :: vs, j + 1, h => by
    simp only [setAt, List.getElem?_cons_succ]
    rw [setAt_get l 0 vs j (by simp at h; omega)]
    simp
  | x :: l, n + 1, vs, 0, h => by simp [setAt]
  | x :: l, n + 1, vs, j + 1, h => by
    simp only [setAt, List.getElem?_cons_succ]
    rw [setAt_get l n vs j (by simp at h; omega)]
    by_cases hc : n ≤ j ∧ j < n + vs.length
    · rw [if_pos hc, if_pos (by omega)]; congr 1; omega
    · rw [if_neg hc, if_neg (by omega)]
theorem look_upd (h : Heap) (g : Nat) (cs : List Value) (g' : Nat) : look (upd h g cs) g' = if g' = g then (look h g).map (fun k => { k with cells := cs }) else look h g' := by
  induction h with
  | nil => simp [upd, look]
  | cons x h ih =>
    simp only [upd, look]
    cases hx : Nat.beq x.1 g
    · simp only [cond_false, look]
      have hne : x.1 ≠ g := fun e => by rw [e, Nat.beq_refl] at hx; cases hx
      cases hx' : Nat.beq x.1 g'
      · simp only [cond_false]; exact ih
      · have : x.1 = g' := Nat.eq_of_beq_eq_true hx'
        subst this
        simp [hne]
    · have : x.1 = g := Nat.eq_of_beq_eq_true hx
      subst this
      simp only [cond_true, look]
      cases hx' : Nat.beq x.1 g'
      · have hne : g' ≠ x.1 := fun e => by rw [e, hx] at hx'; cases hx'
        simp only [cond_false]; rw [ih, if_neg hne, if_neg hne]
      · have : x.1 = g' := Nat.eq_of_beq_eq_true hx'
        simp [this]
theorem look_cons (x : Nat × Blk) (h : Heap) (g : Nat) : look (x :: h) g = if g = x.1 then some x.2 else look h g := by
  simp only [look]
  cases hx : Nat.beq x.1 g
  · have hne : g ≠ x.1 := fun e => by rw [e, Nat.beq_refl] at hx; cases hx
    simp [hne]
  · simp [Nat.eq_of_beq_eq_true hx]
theorem look_kill (h : Heap) (g g' : Nat) : look (kill h g) g' = if g' = g then none else look h g' := by
  induction h with
  | nil => simp [kill, look]
  | cons x h ih =>
    unfold kill at *
    rw [List.filter_cons]
    cases hx : Nat.beq x.1 g
    · have hne : x.1 ≠ g := fun e => by rw [e, Nat.beq_refl] at hx; cases hx
      simp only [Bool.not_false, if_true]
      rw [look_cons, look_cons, ih]
      by_cases h1 : g' = x.1
      · subst h1; simp [hne]
      · simp [h1]
    · have : x.1 = g := Nat.eq_of_beq_eq_true hx
      simp only [Bool.not_true, Bool.false_eq_true, if_false]
      rw [look_cons, ih]
      by_cases h1 : g' = g
      · simp [h1]
      · simp [h1, this]
end Go.Proofs.Ytnnagaioiodniaa.Eng
