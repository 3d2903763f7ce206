/-
  The symbolic machine, part 3 of 3; nothing of the program.
-/
import Derived.Test.YtdljpnebpoaeiaaSy2
/-! The symbolic machine: renaming of letters; what is forgotten; a step behind another under other letters. -/
namespace Go.Proofs.Ytdljpnebpoaeiaa.Sy
open Go.RowKit

def rnA (σ : Nat → Nat) (a : Addr) : Addr := ⟨σ a.block, a.off, a.spot.map σ⟩
def rnC (σ : Nat → Nat) (c : Nat) : Nat := bif Nat.blt c big then c else big + σ (c - big)
/-- A value under other letters, so deep. -/
def rnV (σ : Nat → Nat) : Nat → Value → Value
  | 0, v => match v with
    | .pointer a => .pointer (a.map (rnA σ))
    | .slice a l c => .slice (a.map (rnA σ)) l (rnC σ c)
    | v => v
  | d + 1, v => match v with
    | .pointer a => .pointer (a.map (rnA σ))
    | .slice a l c => .slice (a.map (rnA σ)) l (rnC σ c)
    | .func fn fs cs => .func fn ⟨fs.toList.map (rnV σ d)⟩ ⟨cs.toList.map (rnV σ d)⟩
    | .iface t v => .iface t (rnV σ d v)
    | .agg cs => .agg ⟨cs.toList.map (rnV σ d)⟩
    | .tuple cs => .tuple ⟨cs.toList.map (rnV σ d)⟩
    | v => v
def okFn : Fn → Bool
  | .yield _ => false
  | _ => true
/-- Its letters are such, so deep. -/
def okV (p : Nat → Bool) : Nat → Value → Bool
  | 0, v => match v with
    | .pointer (some a) => bndA p a
    | .slice a _ c => (match a with | some a => bndA p a | none => true) && (Nat.blt c big || p (c - big))
    | .agg cs => cs.toList.all flat0
    | .tuple cs => cs.toList.all flat0
    | v => flat0 v
  | d + 1, v => match v with
    | .pointer (some a) => bndA p a
    | .slice a _ c => (match a with | some a => bndA p a | none => true) && (Nat.blt c big || p (c - big))
    | .func fn fs cs => okFn fn && fs.toList.all (okV p d) && cs.toList.all (okV p d)
    | .iface _ v => okV p d v
    | .agg cs => cs.toList.all (okV p d)
    | .tuple cs => cs.toList.all (okV p d)
    | v => flat0 v
theorem okV_flat0 {p : Nat → Bool} {v : Value} (h : flat0 v = true) : ∀ d, okV p d v = true := by
  intro d
  cases d <;> cases v <;> first
    | rfl
    | exact h
    | (rename_i a; cases a <;> first | rfl | exact h | (simp [flat0] at h; done))
    | (rename_i a _ _; cases a <;> simp [flat0] at h <;> simp [okV, h])
    | (simp [flat0] at h; done)
theorem okV_bnd {p : Nat → Bool} : ∀ (d : Nat) (v : Value), okV p d v = true → bnd p v = true
  | 0, v, h => by
    cases v with
    | pointer a => cases a with
      | none => exact bnd_flat0 _ rfl
      | some a => rw [bnd_ptr]; exact h
    | slice a l c => rw [bnd_slice]; exact h
    | agg cs =>
      rw [bnd_agg, Array.all_eq_true_iff_forall_mem]
      exact fun v hv => bnd_flat0 _ (List.all_eq_true.1 h v (by simpa using hv))
    | tuple cs =>
      rw [bnd_tuple, Array.all_eq_true_iff_forall_mem]
      exact fun v hv => bnd_flat0 _ (List.all_eq_true.1 h v (by simpa using hv))
    | _ => exact bnd_flat0 _ h
  | d + 1, v, h => by
    cases v with
    | pointer a => cases a with
      | none => exact bnd_flat0 _ rfl
      | some a => rw [bnd_ptr]; exact h
    | slice a l c => rw [bnd_slice]; exact h
    | agg cs =>
      rw [bnd_agg, Array.all_eq_true_iff_forall_mem]
      exact fun v hv => okV_bnd d v (List.all_eq_true.1 h v (by simpa using hv))
    | tuple cs =>
      rw [bnd_tuple, Array.all_eq_true_iff_forall_mem]
      exact fun v hv => okV_bnd d v (List.all_eq_true.1 h v (by simpa using hv))
    | func fn a b =>
      simp only [okV, Bool.and_eq_true] at h
      rw [bnd_func, Bool.and_eq_true, Bool.and_eq_true]
      refine ⟨⟨?_, ?_⟩, ?_⟩
      · cases fn <;> first | rfl | exact h.1.1
      · exact Array.all_eq_true_iff_forall_mem.2 fun v hv => okV_bnd d v (List.all_eq_true.1 h.1.2 v (by simpa using hv))
      · exact Array.all_eq_true_iff_forall_mem.2 fun v hv => okV_bnd d v (List.all_eq_true.1 h.2 v (by simpa using hv))
    | iface t v => rw [bnd_iface]; exact okV_bnd d v h
    | _ => exact bnd_flat0 _ h
theorem bnd_and {p q : Nat → Bool} : ∀ v : Value, bnd p v = true → bnd q v = true → bnd (fun l => p l && q l) v = true
  | .pointer (some a), h, h' => by
    rw [bnd_ptr] at *
    unfold bndA at *
    cases hs : a.spot <;> simp [hs] at h h' ⊢ <;> simp [h, h']
  | .pointer none, _, _ => bnd_flat0 _ rfl
  | .slice a l c, h, h' => by
    rw [bnd_slice, Bool.and_eq_true] at *
    refine ⟨?_, ?_⟩
    · cases a with
      | none => rfl
      | some a =>
        have h := h.1
        have h' := h'.1
        simp only [] at h h' ⊢
        unfold bndA at *
        cases hs : a.spot <;> simp [hs] at h h' ⊢ <;> simp [h, h']
    · have h := h.2
      have h' := h'.2
      cases hb : Nat.blt c big
      · simp only [hb, Bool.false_or] at h h' ⊢; simp [h, h']
      · rfl
  | .func fn a b, h, h' => by
    rw [bnd_func, Bool.and_eq_true, Bool.and_eq_true] at *
    refine ⟨⟨h.1.1, ?_⟩, ?_⟩
    · exact Array.all_eq_true_iff_forall_mem.2 fun v hv => bnd_and v (Array.all_eq_true_iff_forall_mem.1 h.1.2 v hv) (Array.all_eq_true_iff_forall_mem.1 h'.1.2 v hv)
    · exact Array.all_eq_true_iff_forall_mem.2 fun v hv => bnd_and v (Array.all_eq_true_iff_forall_mem.1 h.2 v hv) (Array.all_eq_true_iff_forall_mem.1 h'.2 v hv)
  | .iface t v, h, h' => by rw [bnd_iface] at *; exact bnd_and v h h'
  | .agg cs, h, h' => by
    rw [bnd_agg, Array.all_eq_true_iff_forall_mem] at *
    exact fun v hv => bnd_and v (h v hv) (h' v hv)
  | .tuple cs, h, h' => by
    rw [bnd_tuple, Array.all_eq_true_iff_forall_mem] at *
    exact fun v hv => bnd_and v (h v hv) (h' v hv)
  | .map (some _), h, _ => by rw [bnd] at h; cases h
  | .map none, _, _ => bnd_flat0 _ rfl
  | .chan (some _), h, _ => by rw [bnd] at h; cases h
  | .chan none, _, _ => bnd_flat0 _ rfl
  | .bool _, _, _ => bnd_flat0 _ rfl
  | .int _ _, _, _ => bnd_flat0 _ rfl
  | .float _ _, _, _ => bnd_flat0 _ rfl
  | .complex _ _ _, _, _ => bnd_flat0 _ rfl
  | .string _, _, _ => bnd_flat0 _ rfl
  | .nilFunc, _, _ => bnd_flat0 _ rfl
  | .nilIface, _, _ => bnd_flat0 _ rfl
termination_by v => SizeOf.sizeOf v
decreasing_by
  all_goals simp_wf
  all_goals (first | omega | (have := Array.sizeOf_lt_of_mem hv; omega))

section
variable {r r1 : Ren} {σ : Nat → Nat} {p : Nat → Bool}
/-- What the letters of p are, if each stands for what its other letter stands for. -/
def Ren.by (r1 : Ren) (σ : Nat → Nat) (p : Nat → Bool) : Ren :=
  ⟨fun l => if l < NG then l else r1.b (σ l), fun l => if l < NG then 0 else r1.w (σ l), fun l => r1.o (σ l), fun l => r1.c (σ l), fun l => Nat.blt l NG || (p l && r1.d (σ l)),
    fun _ h => if_pos h, fun _ h => if_pos h, fun l h => by simp [h]⟩
theorem by_b (hσ : ∀ l, l < NG → σ l = l) (l : Nat) : (r1.by σ p).b l = r1.b (σ l) := by
  unfold Ren.by
  by_cases h : l < NG
  · simp only [if_pos h]; rw [hσ l h, r1.hb l h]
  · simp only [if_neg h]
theorem by_w (hσ : ∀ l, l < NG → σ l = l) (l : Nat) : (r1.by σ p).w l = r1.w (σ l) := by
  unfold Ren.by
  by_cases h : l < NG
  · simp only [if_pos h]; rw [hσ l h, r1.hw l h]
  · simp only [if_neg h]
theorem by_d {l : Nat} (hp : p l = true) (hd : r1.d (σ l) = true) : (r1.by σ p).d l = true := by simp [Ren.by, hp, hd]
theorem d_by (hσ : ∀ l, l < NG → σ l = l) {l : Nat} (h : (r1.by σ p).d l = true) : r1.d (σ l) = true := by
  simp only [Ren.by, Bool.or_eq_true, Bool.and_eq_true] at h
  rcases h with h | h
  · have : l < NG := by simpa using h
    rw [hσ l this]; exact r1.hd l this
  · exact h.2
theorem rn_addr (hσ : ∀ l, l < NG → σ l = l) (a : Addr) : r1.addr (rnA σ a) = (r1.by σ p).addr a := by
  unfold Ren.addr rnA
  rw [by_b hσ, by_w hσ]
  cases a.spot <;> rfl
theorem rn_cap (c : Nat) : r1.cap (rnC σ c) = (r1.by σ p).cap c := by
  unfold rnC
  cases h : Nat.blt c big
  · simp only [cond_false]
    rw [cap_letter]
    unfold Ren.cap
    rw [h]; rfl
  · simp only [cond_true]
    rw [cap_small (big_blt.1 h), cap_small (big_blt.1 h)]
theorem rn_flat {x v : Value} (h : flat0 v = true) (e : x = v) : r1.val x = (r1.by σ p).val v := by
  subst e; rw [val_flat0 _ h, val_flat0 _ h]
theorem rn_val (hσ : ∀ l, l < NG → σ l = l) : ∀ (d : Nat) (v : Value), okV p d v = true → r1.val (rnV σ d v) = (r1.by σ p).val v
  | 0, v, h => by
    cases v with
    | pointer a => simp only [rnV, val_ptr, Option.map_map]; cases a <;> simp [rn_addr (p := p) hσ]
    | slice a l c => simp only [rnV, val_slice, Option.map_map, rn_cap (p := p)]; cases a <;> simp [rn_addr (p := p) hσ]
    | agg cs => simp only [rnV]; rw [val_flat1 _ (by exact h), val_flat1 _ (by exact h)]
    | tuple cs =>
      have hf : flat2 (.tuple cs) = true := by
        simp only [flat2]
        exact List.all_eq_true.2 fun v hv => by
          have := List.all_eq_true.1 h v hv
          unfold flat1
          split
          · simp [flat0] at this
          · exact this
      simp only [rnV]; rw [val_flat2 _ hf, val_flat2 _ hf]
    | _ => exact rn_flat h rfl
  | d + 1, v, h => by
    have hl : ∀ l : List Value, l.all (okV p d) = true → (l.map (rnV σ d)).map r1.val = l.map (r1.by σ p).val := fun l hl => by
      rw [List.map_map]
      apply List.map_congr_left
      intro v hv
      exact rn_val hσ d v (List.all_eq_true.1 hl v hv)
    cases v with
    | pointer a => simp only [rnV, val_ptr, Option.map_map]; cases a <;> simp [rn_addr (p := p) hσ]
    | slice a l c => simp only [rnV, val_slice, Option.map_map, rn_cap (p := p)]; cases a <;> simp [rn_addr (p := p) hσ]
    | agg cs =>
      simp only [rnV, val_agg]; congr 1
      apply Array.ext'
      simpa using hl cs.toList h
    | tuple cs =>
      simp only [rnV, val_tuple]; congr 1
      apply Array.ext'
      simpa using hl cs.toList h
    | func fn a b =>
      simp only [okV, Bool.and_eq_true] at h
      simp only [rnV, val_func]
      congr 1
      · apply Array.ext'; simpa using hl a.toList h.1.2
      · apply Array.ext'; simpa using hl b.toList h.2
    | iface t v => simp only [rnV, val_iface]; rw [rn_val hσ d v h]
    | _ => exact rn_flat h rfl
theorem rn_bnd : ∀ (d : Nat) (v : Value), okV p d v = true → bnd r1.d (rnV σ d v) = true → bnd (r1.by σ p).d v = true := by
  have hA : ∀ a, bndA p a = true → bndA r1.d (rnA σ a) = true → bndA (r1.by σ p).d a = true := by
    intro a h h'
    unfold bndA rnA at *
    simp only [Bool.and_eq_true] at *
    refine ⟨by_d h.1 h'.1, ?_⟩
    cases hs : a.spot with
    | none => rfl
    | some k => rw [hs] at h h'; exact by_d h.2 h'.2
  have hS : ∀ a l c, bnd p (.slice a l c) = true → bnd r1.d (.slice (a.map (rnA σ)) l (rnC σ c)) = true → bnd (r1.by σ p).d (.slice a l c) = true := by
    intro a l c h h'
    rw [bnd_slice, Bool.and_eq_true] at *
    refine ⟨?_, ?_⟩
    · cases a with
      | none => rfl
      | some a => exact hA a h.1 h'.1
    · cases hb : Nat.blt c big
      · have h1 := h.2
        have h2 := h'.2
        rw [hb] at h1
        unfold rnC at h2
        rw [hb] at h2
        have hbb : Nat.blt (big + σ (c - big)) big = false := by
          cases hx : Nat.blt (big + σ (c - big)) big
          · rfl
          · have := big_blt.1 hx; omega
        simp only [cond_false, hbb, Bool.false_or] at h1 h2 ⊢
        rw [show big + σ (c - big) - big = σ (c - big) by omega] at h2
        exact by_d h1 h2
      · rfl
  intro d
  induction d with
  | zero =>
    intro v h h'
    cases v with
    | pointer a => cases a with
      | none => exact bnd_flat0 _ rfl
      | some a => rw [bnd_ptr]; simp only [rnV, Option.map_some] at h'; rw [bnd_ptr] at h'; exact hA a h h'
    | slice a l c => exact hS a l c (okV_bnd 0 _ h) h'
    | agg cs =>
      rw [bnd_agg, Array.all_eq_true_iff_forall_mem]
      exact fun v hv => bnd_flat0 _ (List.all_eq_true.1 h v (by simpa using hv))
    | tuple cs =>
      rw [bnd_tuple, Array.all_eq_true_iff_forall_mem]
      exact fun v hv => bnd_flat0 _ (List.all_eq_true.1 h v (by simpa using hv))
    | _ => exact bnd_flat0 _ h
  | succ d ih =>
    intro v h h'
    have hl : ∀ cs : Array Value, cs.toList.all (okV p d) = true → (∀ v ∈ cs.toList.map (rnV σ d), bnd r1.d v = true) → cs.all (bnd (r1.by σ p).d) = true := fun cs h1 h2 => by
      rw [Array.all_eq_true_iff_forall_mem]
      intro v hv
      exact ih v (List.all_eq_true.1 h1 v (by simpa using hv)) (h2 _ (List.mem_map_of_mem (by simpa using hv)))
    cases v with
    | pointer a => cases a with
      | none => exact bnd_flat0 _ rfl
      | some a => rw [bnd_ptr]; simp only [rnV, Option.map_some] at h'; rw [bnd_ptr] at h'; exact hA a h h'
    | slice a l c => exact hS a l c (okV_bnd (d + 1) _ h) h'
    | agg cs =>
      simp only [rnV] at h'
      rw [bnd_agg, Array.all_eq_true_iff_forall_mem] at h'
      rw [bnd_agg]
      exact hl cs h fun v hv => h' v (by simpa using hv)
    | tuple cs =>
      simp only [rnV] at h'
      rw [bnd_tuple, Array.all_eq_true_iff_forall_mem] at h'
      rw [bnd_tuple]
      exact hl cs h fun v hv => h' v (by simpa using hv)
    | func fn a b =>
      simp only [rnV] at h'
      simp only [okV, Bool.and_eq_true] at h
      rw [bnd_func, Bool.and_eq_true, Bool.and_eq_true] at h' ⊢
      refine ⟨⟨h'.1.1, ?_⟩, ?_⟩
      · exact hl a h.1.2 fun v hv => Array.all_eq_true_iff_forall_mem.1 h'.1.2 v (by simpa using hv)
      · exact hl b h.2 fun v hv => Array.all_eq_true_iff_forall_mem.1 h'.2 v (by simpa using hv)
    | iface t v =>
      simp only [rnV] at h'
      rw [bnd_iface] at h' ⊢
      exact ih v h h'
    | _ => exact bnd_flat0 _ h
theorem isE_rn (d : Nat) (v : Value) : isE (rnV σ d v) = isE v := by
  cases d <;> cases v <;> try rfl
  rename_i d vs
  simp only [rnV, isE]
  cases vs.toList <;> rfl
theorem isU_rn (d : Nat) (v : Value) : isU (rnV σ d v) = isU v := by
  cases d <;> cases v <;> try rfl
  rename_i d vs
  simp only [rnV, isU]
  cases h : vs.toList with
  | nil => rfl
  | cons a l => cases l with
    | nil => exact isE_rn d a
    | cons b l => rfl
end

/-- Of its block's size nothing is claimed. -/
def Loose (k : Blk) : Prop := k.rw = false ∧ k.op = some (0, 0) ∧ k.it = none
/-- The second state is seen in the first one: its letters are p's, each stands for what its other letter stands for. -/
structure SeenS (d : Nat) (p : Nat → Bool) (σ : Nat → Nat) (s1 s2 : St) : Prop where
  heap : ∀ g k, look s2.h g = some k → p g = true ∧ (∀ v ∈ k.cells, okV p d v = true) ∧ (∀ q, k.op = some q → p q.1 = true) ∧
    ∃ k1, look s1.h (σ g) = some k1 ∧ (k.rw = true → k1.rw = true) ∧ (k1.op = k.op.map (fun q => (σ q.1, q.2)) ∨ Loose k) ∧ k1.it = k.it ∧ k1.cells = k.cells.map (rnV σ d)
  inj : ∀ g g' k k', look s2.h g = some k → look s2.h g' = some k' → σ g = σ g' → g = g'
  lo : ∀ x ∈ s2.lo, p x.1 = true ∧ ∃ m, (σ x.1, m) ∈ s1.lo ∧ x.2 ≤ m
def SeenE (d : Nat) (p : Nat → Bool) (σ : Nat → Nat) (e1 e2 : Env) : Prop := ∀ t, isU (getE e2 t) = true ∨ (okV p d (getE e2 t) = true ∧ getE e1 t = rnV σ d (getE e2 t))

section
variable {r r1 : Ren} {σ : Nat → Nat} {p : Nat → Bool} {d : Nat} {s s1 s2 : St} {w : World}
theorem rn_oneCell (d : Nat) (v : Value) : (rnV σ d v).oneCell' = v.oneCell' := by
  cases d <;> cases v <;> rfl
theorem SeenS.good (h : SeenS d p σ s1 s2) (hσ : ∀ l, l < NG → σ l = l) (hg : Good r1 s1 w) : Good (r1.by σ p) s2 w := by
  refine ⟨fun g k hk => ?_, fun g g' k k' h1 h2 hrw h3 => ?_, fun g k hk => ?_, fun x hx => ?_⟩
  · obtain ⟨hp, hc, ho, k1, q1, q2, q3, q4, q5⟩ := h.heap g k hk
    rcases hg.is _ _ q1 with ⟨hi, arr, ty, fr, g1, g2, g3, g4⟩ | ⟨x, g1, g2, g3, g4, g5⟩
    · refine .inl ⟨q4 ▸ hi, arr, ty, fr, by rw [by_b hσ]; exact g1, ?_, fun j v hj => ?_, fun hrw => g4 (q2 hrw)⟩
      · rw [by_w hσ]
        rcases q3 with q3 | ⟨q3, q3', _⟩
        · cases hop : k.op with
          | none => rw [q3, hop] at g2; rw [q5, List.length_map] at g2; exact g2
          | some q =>
            rw [q3, hop] at g2
            simp only [Option.map_some] at g2
            rw [q5, List.length_map] at g2
            refine ⟨g2.1.imp (fun h => ?_) id, g2.2⟩
            cases hrw : k.rw
            · rfl
            · rw [q2 hrw] at h; cases h
        · rw [q3']
          rw [q5, List.length_map] at g2
          refine ⟨.inl q3, ?_⟩
          cases hop : k1.op with
          | none => rw [hop] at g2; simp only [] at g2; omega
          | some q => rw [hop] at g2; exact g2.2
      · rw [by_w hσ, ← rn_val hσ d v (hc v (List.mem_of_getElem? hj))]
        exact g3 j _ (by rw [q5, List.getElem?_map, hj]; rfl)
    · refine .inr ⟨x, by rw [← q4]; exact g1, by rw [by_b hσ]; exact g2, ?_, ?_, by rw [by_w hσ]; exact g5⟩
      · rw [q5] at g3; exact List.map_eq_nil_iff.1 g3
      · rcases q3 with q3 | ⟨_, _, q3'⟩
        · rw [q3] at g4
          cases hop : k.op with
          | none => rfl
          | some q => rw [hop] at g4; cases g4
        · rw [q4, q3'] at g1; cases g1
  · obtain ⟨_, _, _, k1, q1, q2, _⟩ := h.heap g k h1
    obtain ⟨_, _, _, k1', q1', _⟩ := h.heap g' k' h2
    rw [by_b hσ, by_b hσ] at h3
    exact h.inj g g' k k' h1 h2 (hg.inj _ _ _ _ q1 q1' (q2 hrw) h3)
  · obtain ⟨hp, hc, ho, k1, q1, q2, q3, q4, q5⟩ := h.heap g k hk
    obtain ⟨l1, l2, l3⟩ := hg.lt _ _ q1
    refine ⟨by_d hp l1, fun q hq => by
      rcases q3 with q3 | ⟨_, q3', _⟩
      · exact by_d (ho q hq) (l2 _ (by rw [q3, hq]; rfl))
      · rw [q3'] at hq; cases hq; exact (r1.by σ p).hd 0 (by decide), fun v hv => ?_⟩
    obtain ⟨l4, l5⟩ := l3 (rnV σ d v) (by rw [q5]; exact List.mem_map_of_mem hv)
    exact ⟨rn_bnd d v (hc v hv) l4, by rw [rn_oneCell] at l5; exact l5⟩
  · obtain ⟨hp, m, hm, hle⟩ := h.lo x hx
    have := hg.lo _ hm
    exact ⟨Nat.le_trans hle this.1, by_d hp this.2⟩
theorem Tv.by {e1 e2 : Env} {t : Nat} {u : Value} (h : isU (getE e2 t) = true ∨ (okV p d (getE e2 t) = true ∧ getE e1 t = rnV σ d (getE e2 t))) (hσ : ∀ l, l < NG → σ l = l) (hT : Tv r1 (getE e1 t) u) : Tv (r1.by σ p) (getE e2 t) u := by
  rcases h with h | ⟨h1, h2⟩
  · exact .inl h
  · rw [h2] at hT
    rcases hT with h | ⟨h3, h4⟩
    · rw [isU_rn] at h; exact .inl h
    · exact .inr ⟨by rw [h3, rn_val hσ d _ h1], rn_bnd d _ h1 h4⟩
theorem SeenE.fits {nt : Nat} {e1 e2 : Env} {a : Act} (h : SeenE d p σ e1 e2) (hσ : ∀ l, l < NG → σ l = l) (hf : Fits r1 nt e1 a) : Fits (r1.by σ p) nt e2 a :=
  ⟨hf.size, hf.defers, fun t => Tv.by (h t) hσ (hf.tmps t)⟩

/-- The letters below a number alone. -/
def Ren.low (r : Ren) (n : Nat) : Ren := ⟨r.b, r.w, r.o, r.c, fun l => Nat.blt l NG || (r.d l && Nat.blt l n), r.hb, r.hw, fun l h => by simp [h]⟩
theorem low_val (n : Nat) : (r.low n).val = r.val := by
  funext v
  have : ∀ v : Value, (r.low n).val v = r.val v := by
    intro v
    have e1 : (r.low n).addr = r.addr := rfl
    have e2 : (r.low n).cap = r.cap := rfl
    have key : ∀ m : Nat, ∀ v : Value, SizeOf.sizeOf v ≤ m → (r.low n).val v = r.val v := by
      intro m
      induction m with
      | zero => intro v hv; cases v <;> simp at hv
      | succ m ih =>
        intro v hv
        have harr : ∀ cs : Array Value, SizeOf.sizeOf cs ≤ m → cs.map (r.low n).val = cs.map r.val := fun cs hcs =>
          Array.map_congr_left fun v hv => ih v (by have := Array.sizeOf_lt_of_mem hv; omega)
        cases v with
        | pointer a => rw [val_ptr, val_ptr, e1]
        | slice a l c => rw [val_slice, val_slice, e1, e2]
        | func f a b => simp at hv; rw [val_func, val_func, harr a (by omega), harr b (by omega)]
        | iface t v => simp at hv; rw [val_iface, val_iface, ih v (by omega)]
        | agg cs => simp at hv; rw [val_agg, val_agg, harr cs (by omega)]
        | tuple cs => simp at hv; rw [val_tuple, val_tuple, harr cs (by omega)]
        | map m => rw [Ren.val, Ren.val] <;> simp
        | chan m => rw [Ren.val, Ren.val] <;> simp
        | _ => rw [Ren.val, Ren.val] <;> simp
    exact key _ v (Nat.le_refl _)
  exact this v
/-- All letters of a state are such. -/
structure OkS (q : Nat → Bool) (s : St) : Prop where
  heap : ∀ g k, look s.h g = some k → q g = true ∧ (∀ p, k.op = some p → q p.1 = true) ∧ ∀ v ∈ k.cells, bnd q v = true
  lo : ∀ x ∈ s.lo, q x.1 = true
theorem low_d {n l : Nat} (h : r.d l = true) (hl : l < n) : (r.low n).d l = true := by simp [Ren.low, h, hl]
theorem low_bnd {n : Nat} {v : Value} (h : bnd r.d v = true) (hq : bnd (fun l => Nat.blt l n) v = true) : bnd (r.low n).d v = true :=
  bnd_mono (fun l hl => by
    simp only [Bool.and_eq_true] at hl
    simp only [Ren.low, Bool.or_eq_true, Bool.and_eq_true]
    exact .inr hl) v (bnd_and v h hq)
theorem Is.low {k : Blk} {g n : Nat} (h : Is r k g w) : Is (r.low n) k g w := by
  rcases h with ⟨hi, arr, ty, fr, h1, h2, h3, h4⟩ | h
  · exact .inl ⟨hi, arr, ty, fr, h1, h2, fun j v hj => by rw [low_val]; exact h3 j v hj, h4⟩
  · exact .inr h
theorem Good.low {n : Nat} (hg : Good r s w) (hq : OkS (fun l => Nat.blt l n) s) : Good (r.low n) s w := by
  refine ⟨fun g k hk => (hg.is g k hk).low, hg.inj, fun g k hk => ?_, fun x hx => ?_⟩
  · obtain ⟨h1, h2, h3⟩ := hq.heap g k hk
    obtain ⟨l1, l2, l3⟩ := hg.lt g k hk
    exact ⟨low_d l1 (by simpa using h1), fun q hq => low_d (l2 q hq) (by simpa using h2 q hq), fun v hv => ⟨low_bnd (l3 v hv).1 (h3 v hv), (l3 v hv).2⟩⟩
  · have := hg.lo x hx
    exact ⟨this.1, low_d this.2 (by simpa using hq.lo x hx)⟩
theorem Fits.low {nt n : Nat} {e : Env} {a : Act} (hf : Fits r nt e a) (hq : ∀ t, isU (getE e t) = true ∨ bnd (fun l => Nat.blt l n) (getE e t) = true) : Fits (r.low n) nt e a := by
  refine ⟨hf.size, hf.defers, fun t => ?_⟩
  rcases hf.tmps t with h | ⟨h1, h2⟩
  · exact .inl h
  · rcases hq t with h | h
    · exact .inl h
    · exact .inr ⟨by rw [low_val]; exact h1, low_bnd h2 h⟩
theorem low_fresh {n m : Nat} (hn : NG ≤ n) : Fresh (r.low n) n m := fun g hg _ => by
  have h1 : Nat.blt g NG = false := by
    cases h : Nat.blt g NG
    · rfl
    · simp at h; omega
  have h2 : Nat.blt g n = false := by
    cases h : Nat.blt g n
    · rfl
    · simp at h; omega
  simp [Ren.low, h1, h2]
end

/-- The letters that may stand behind both steps. -/
def keeps (N M : Nat) (σ : Nat → Nat) (p : Nat → Bool) (l : Nat) : Bool := Nat.blt l NG || (bif Nat.blt l N then Nat.beq (σ l) l && p l else Nat.blt l M)
section
variable {r r1 r3 : Ren} {σ : Nat → Nat} {p : Nat → Bool} {d : Nat} {s s1 sM s3 : St} {w w1 w3 : World}
/-- What stood for something stands for that; the rest for what it stands for in the other. -/
def Ren.or (r r3 : Ren) (N M : Nat) : Ren :=
  ⟨fun l => bif r.d l then r.b l else r3.b l, fun l => bif r.d l then r.w l else r3.w l, fun l => bif r.d l then r.o l else r3.o l, fun l => bif r.d l then r.c l else r3.c l, fun l => r.d l || (Nat.ble N l && Nat.blt l M && r3.d l),
    fun l h => by rw [r.hd l h]; exact r.hb l h, fun l h => by rw [r.hd l h]; exact r.hw l h, fun l h => by rw [r.hd l h]; rfl⟩
theorem or_ext (r r3 : Ren) (N M : Nat) : Ext r (r.or r3 N M) :=
  ⟨fun g h => by simp [Ren.or, h], fun g h => by simp [Ren.or, h], fun g h => by simp [Ren.or, h], fun g h => by simp [Ren.or, h], fun g h => by simp [Ren.or, h]⟩
theorem To.behind (hg : Good r s w) (hNG : NG ≤ s.n) (T1 : To (r.low s.n) s w r1 s1 w1) (hσ : ∀ l, l < NG → σ l = l) (hS : SeenS d p σ s1 sM) (T2 : To (r1.by σ p) sM w1 r3 s3 w3)
    (hM : s.n ≤ sM.n) (hfr : Fresh r s.n s3.n) (hq : OkS (keeps s.n s3.n σ p) s3) (hro : ∀ g k, look sM.h g = some k → k.rw = false → σ g = g ∨ look s.h (σ g) = none) :
    To r s w (r.or r3 s.n s3.n) s3 w3 ∧ ∀ v u, bnd (keeps s.n s3.n σ p) v = true → Tv r3 v u → Tv (r.or r3 s.n s3.n) v u := by
  -- where the letters agree
  have agree : ∀ l, keeps s.n s3.n σ p l = true → r3.d l = true → (r.or r3 s.n s3.n).d l = true ∧ (r.or r3 s.n s3.n).b l = r3.b l ∧ (r.or r3 s.n s3.n).w l = r3.w l ∧ (r.or r3 s.n s3.n).o l = r3.o l ∧ (r.or r3 s.n s3.n).c l = r3.c l := by
    intro l hk hd
    have low : l < s.n → σ l = l → r.d l = true ∧ r3.b l = r.b l ∧ r3.w l = r.w l ∧ r3.o l = r.o l ∧ r3.c l = r.c l := by
      intro hl hs
      have h2 : (r1.by σ p).d l = true := by
        rcases T2.dom l hd with h | h
        · exact h
        · omega
      have h1 := d_by hσ h2
      rw [hs] at h1
      have h0 : (r.low s.n).d l = true := by
        rcases T1.dom l h1 with h | h
        · exact h
        · omega
      have hr : r.d l = true := by
        simp only [Ren.low, Bool.or_eq_true, Bool.and_eq_true] at h0
        rcases h0 with h | h
        · exact r.hd l (by simpa using h)
        · exact h.1
      refine ⟨hr, ?_, ?_, ?_, ?_⟩
      · rw [T2.ext.b l h2, by_b hσ, hs, T1.ext.b l h0]; rfl
      · rw [T2.ext.w l h2, by_w hσ, hs, T1.ext.w l h0]; rfl
      · rw [T2.ext.o l h2]; show r1.o (σ l) = _; rw [hs, T1.ext.o l h0]; rfl
      · rw [T2.ext.c l h2]; show r1.c (σ l) = _; rw [hs, T1.ext.c l h0]; rfl
    have fin : (r.d l = true ∧ r3.b l = r.b l ∧ r3.w l = r.w l ∧ r3.o l = r.o l ∧ r3.c l = r.c l) → (r.or r3 s.n s3.n).d l = true ∧ (r.or r3 s.n s3.n).b l = r3.b l ∧ (r.or r3 s.n s3.n).w l = r3.w l ∧ (r.or r3 s.n s3.n).o l = r3.o l ∧ (r.or r3 s.n s3.n).c l = r3.c l := by
      rintro ⟨h0, h1, h2, h3, h4⟩
      have E := or_ext r r3 s.n s3.n
      exact ⟨E.d l h0, by rw [E.b l h0, h1], by rw [E.w l h0, h2], by rw [E.o l h0, h3], by rw [E.c l h0, h4]⟩
    unfold keeps at hk
    rw [Bool.or_eq_true] at hk
    rcases hk with hk | hk
    · have hl : l < NG := by simpa using hk
      exact fin (low (by omega) (hσ l hl))
    · cases hb : Nat.blt l s.n <;> rw [hb] at hk
      · simp only [cond_false, Nat.blt_eq] at hk
        have hge : s.n ≤ l := by
          rcases Nat.lt_or_ge l s.n with h | h
          · rw [(Nat.blt_eq).mpr h] at hb; cases hb
          · exact h
        have hn := hfr l hge hk
        have h1 : Nat.ble s.n l = true := Nat.ble_eq_true_of_le hge
        have h2 : Nat.blt l s3.n = true := (Nat.blt_eq).mpr hk
        simp [Ren.or, hn, hd, h1, hk]
      · simp only [cond_true, Bool.and_eq_true] at hk
        have hl : l < s.n := by simpa using hb
        exact fin (low hl (Nat.eq_of_beq_eq_true hk.1))
  have E3 : Ext ⟨r3.b, r3.w, r3.o, r3.c, fun l => Nat.blt l NG || (keeps s.n s3.n σ p l && r3.d l), r3.hb, r3.hw, fun l h => by simp [h]⟩ (r.or r3 s.n s3.n) := by
    have key : ∀ g, (Nat.blt g NG || (keeps s.n s3.n σ p g && r3.d g)) = true → keeps s.n s3.n σ p g = true ∧ r3.d g = true := by
      intro g h
      rw [Bool.or_eq_true, Bool.and_eq_true] at h
      rcases h with h | h
      · exact ⟨by unfold keeps; rw [h]; rfl, r3.hd g (by simpa using h)⟩
      · exact h
    exact ⟨fun g h => (agree g (key g h).1 (key g h).2).1, fun g h => (agree g (key g h).1 (key g h).2).2.1, fun g h => (agree g (key g h).1 (key g h).2).2.2.1, fun g h => (agree g (key g h).1 (key g h).2).2.2.2.1, fun g h => (agree g (key g h).1 (key g h).2).2.2.2.2⟩
  have hbv : ∀ v, bnd (keeps s.n s3.n σ p) v = true → bnd r3.d v = true → bnd (fun l => Nat.blt l NG || (keeps s.n s3.n σ p l && r3.d l)) v = true := fun v h1 h2 =>
    bnd_mono (fun l h => by rw [h]; simp) v (bnd_and v h1 h2)
  have hval : ∀ v, bnd (keeps s.n s3.n σ p) v = true → bnd r3.d v = true → (r.or r3 s.n s3.n).val v = r3.val v ∧ bnd (r.or r3 s.n s3.n).d v = true := by
    intro v h1 h2
    have h3 := hbv v h1 h2
    refine ⟨?_, bnd_mono E3.d v h3⟩
    rw [val_ext E3 v h3]
    have : ∀ (r r' : Ren), r.b = r'.b → r.w = r'.w → r.o = r'.o → r.c = r'.c → r.val = r'.val := by
      intro r r' e1 e2 e3 e4
      funext v
      have a1 : r.addr = r'.addr := by funext a; unfold Ren.addr; rw [e1, e2, e3]
      have a2 : r.cap = r'.cap := by funext a; unfold Ren.cap; rw [e4]
      have key : ∀ m : Nat, ∀ v : Value, SizeOf.sizeOf v ≤ m → r.val v = r'.val v := by
        intro m
        induction m with
        | zero => intro v hv; cases v <;> simp at hv
        | succ m ih =>
          intro v hv
          have harr : ∀ cs : Array Value, SizeOf.sizeOf cs ≤ m → cs.map r.val = cs.map r'.val := fun cs hcs =>
            Array.map_congr_left fun v hv => ih v (by have := Array.sizeOf_lt_of_mem hv; omega)
          cases v with
          | pointer a => rw [val_ptr, val_ptr, a1]
          | slice a l c => rw [val_slice, val_slice, a1, a2]
          | func f a b => simp at hv; rw [val_func, val_func, harr a (by omega), harr b (by omega)]
          | iface t v => simp at hv; rw [val_iface, val_iface, ih v (by omega)]
          | agg cs => simp at hv; rw [val_agg, val_agg, harr cs (by omega)]
          | tuple cs => simp at hv; rw [val_tuple, val_tuple, harr cs (by omega)]
          | map m => rw [Ren.val, Ren.val] <;> simp
          | chan m => rw [Ren.val, Ren.val] <;> simp
          | _ => rw [Ren.val, Ren.val] <;> simp
      exact key _ v (Nat.le_refl _)
    exact congrFun (this ⟨r3.b, r3.w, r3.o, r3.c, fun l => Nat.blt l NG || (keeps s.n s3.n σ p l && r3.d l), r3.hb, r3.hw, fun l h => by simp [h]⟩ r3 rfl rfl rfl rfl) v
  have hG3 := T2.good
  have hsM : ∀ g k, look sM.h g = some k → ∃ k1, look s1.h (σ g) = some k1 ∧ (k.rw = true → k1.rw = true) := fun g k hk => by
    obtain ⟨_, _, _, k1, q1, q2, _⟩ := hS.heap g k hk
    exact ⟨k1, q1, q2⟩
  have hb0 : ∀ g k, look s.h g = some k → r1.b g = r.b g := fun g k hk => T1.ext.b g (T1.good0.lt g k hk).1
  have hle := T2.le
  refine ⟨⟨or_ext _ _ _ _, fun g h => ?_, by omega, hg, ⟨fun g k hk => ?_, fun g g' k k' h1 h2 hrw h3 => ?_, fun g k hk => ?_, fun x hx => ?_⟩, T2.os.trans T1.os, T2.tape.trans T1.tape, T2.output.trans T1.output, Nat.le_trans T1.size T2.size, fun b hb hn => ?_, fun g k hk => ?_⟩, fun v u h1 h2 => ?_⟩
  · simp only [Ren.or, Bool.or_eq_true, Bool.and_eq_true, Nat.blt_eq] at h
    rcases h with h | h
    · exact .inl h
    · exact .inr ⟨Nat.le_of_ble_eq_true h.1.1, h.1.2⟩
  · obtain ⟨a1, a2, a3⟩ := hq.heap g k hk
    obtain ⟨l1, l2, l3⟩ := hG3.lt g k hk
    obtain ⟨_, b2, b3, _, _⟩ := agree g a1 l1
    rcases hG3.is g k hk with ⟨hi, arr, ty, fr, g1, g2, g3, g4⟩ | ⟨x, g1, g2, g3, g4, g5⟩
    · refine .inl ⟨hi, arr, ty, fr, by rw [b2]; exact g1, ?_, fun j v hj => ?_, g4⟩
      · rw [b3]
        cases hop : k.op with
        | none => rw [hop] at g2; exact g2
        | some q => rw [hop] at g2; simp only [] at g2 ⊢; rw [(agree q.1 (a2 q hop) (l2 q hop)).2.2.2.2]; exact g2
      · have hv := List.mem_of_getElem? hj
        rw [b3, (hval v (a3 v hv) (l3 v hv).1).1]
        exact g3 j v hj
    · exact .inr ⟨x, g1, by rw [b2]; exact g2, g3, g4, by rw [b3]; exact g5⟩
  · rw [(agree g (hq.heap g k h1).1 (hG3.lt g k h1).1).2.1, (agree g' (hq.heap g' k' h2).1 (hG3.lt g' k' h2).1).2.1] at h3
    exact hG3.inj g g' k k' h1 h2 hrw h3
  · obtain ⟨a1, a2, a3⟩ := hq.heap g k hk
    obtain ⟨l1, l2, l3⟩ := hG3.lt g k hk
    exact ⟨(agree g a1 l1).1, fun q hq => (agree q.1 (a2 q hq) (l2 q hq)).1, fun v hv => ⟨(hval v (a3 v hv) (l3 v hv).1).2, (l3 v hv).2⟩⟩
  · have := hG3.lo x hx
    obtain ⟨a1, _, _, _, a5⟩ := agree x.1 (hq.lo x hx) this.2
    exact ⟨by rw [a5]; exact this.1, a1⟩
  · refine (T2.frame b (Nat.lt_of_lt_of_le hb T1.size) fun g k hk hrw e => ?_).trans (T1.frame b hb fun g k hk hrw => hn g k hk hrw)
    obtain ⟨k1, q1, q2⟩ := hsM g k hk
    rw [by_b hσ] at e
    rcases T1.own _ k1 q1 with ⟨k0, q3, q4⟩ | q3 | ⟨g0, k0, q3, q4, q5⟩
    · exact hn _ k0 q3 (q4 (q2 hrw)) ((hb0 _ k0 q3).symm.trans e)
    · omega
    · exact hn g0 k0 q3 q4 (q5.trans e)
  · obtain ⟨_, b2, _⟩ := agree g (hq.heap g k hk).1 (hG3.lt g k hk).1
    rw [b2]
    rcases T2.own g k hk with ⟨k0, q1, q2⟩ | q1 | ⟨g0, k0, q1, q2, q3⟩
    · obtain ⟨k1, q3, q4⟩ := hsM g k0 q1
      have hr3 : r3.b g = r1.b (σ g) := by rw [T2.ext.b g ((hS.good hσ T1.good).lt g k0 q1).1, by_b hσ]
      rcases T1.own _ k1 q3 with ⟨k00, q5, q6⟩ | q5 | ⟨g1, k00, q5, q6, q7⟩
      · by_cases hs : σ g = g
        · exact .inl ⟨k00, by rw [hs] at q5; exact q5, fun h => q6 (q4 (q2 h))⟩
        · cases hk0 : k0.rw
          · rcases hro g k0 q1 hk0 with h | h
            · exact absurd h hs
            · rw [h] at q5; cases q5
          · exact .inr (.inr ⟨σ g, k00, q5, q6 (q4 hk0), by rw [hr3, hb0 _ k00 q5]⟩)
      · exact .inr (.inl (by rw [hr3]; exact q5))
      · exact .inr (.inr ⟨g1, k00, q5, q6, by rw [hr3]; exact q7⟩)
    · have := T1.size; exact .inr (.inl (by omega))
    · obtain ⟨k1, q4, q5⟩ := hsM g0 k0 q1
      rw [by_b hσ] at q3
      rcases T1.own _ k1 q4 with ⟨k00, q6, q7⟩ | q6 | ⟨g1, k00, q6, q7, q8⟩
      · exact .inr (.inr ⟨σ g0, k00, q6, q7 (q5 q2), by rw [← hb0 _ k00 q6]; exact q3⟩)
      · exact .inr (.inl (by omega))
      · exact .inr (.inr ⟨g1, k00, q6, q7, q8.trans q3⟩)
  · rcases h2 with h | ⟨h2, h3⟩
    · exact .inl h
    · obtain ⟨h4, h5⟩ := hval v h1 h3
      exact .inr ⟨by rw [h4]; exact h2, h5⟩
end
end Go.Proofs.Ytdljpnebpoaeiaa.Sy

/-! The symbolic machine: loops by induction over frames of which the living parts alone are known. -/
namespace Go.Proofs.Ytdljpnebpoaeiaa.Sy
open Go.RowKit

/-! Frames of which some temporaries are known. -/
def unkE : Nat → Env
  | 0 => []
  | n + 1 => [unk, unk, unk, unk, unk, unk, unk, unk, unk, unk, unk, unk, unk, unk, unk, unk] :: unkE n
def putL : List (Nat × Value) → Env → Env
  | [], e => e
  | x :: l, e => putE (putL l e) x.1 x.2
/-- nothing is known but these -/
def mkE (nt : Nat) (l : List (Nat × Value)) : Env := putL l (unkE (nt / 16 + 1))
structure Sf where
  n : Nat
  e : List (Nat × Value)
  h : Heap
  lo : List (Nat × Nat)
def Sf.st (f : Sf) : St := ⟨f.n, f.h, f.lo, 0, [], 0, True⟩
def Sf.fr (nt : Nat) (f : Sf) : Fr := ⟨mkE nt f.e, f.st⟩
/-- with tests' answers to come -/
def Sf.frT (nt : Nat) (f : Sf) (T : List (Nat × Bool)) : Fr := ⟨mkE nt f.e, ⟨f.n, f.h, f.lo, 0, T, 0, True⟩⟩
theorem getE_unkE : ∀ (n t : Nat), getE (unkE n) t = if t < 16 * n then unk else undef
  | 0, t => by rw [if_neg (by omega)]; unfold unkE; exact getE_nil t
  | n + 1, t => by
    unfold getE unkE
    by_cases h : t < 16
    · have h0 : t / 16 = 0 := by omega
      rw [if_pos (by omega), h0]
      simp only [getD']
      have : t = 0 ∨ t = 1 ∨ t = 2 ∨ t = 3 ∨ t = 4 ∨ t = 5 ∨ t = 6 ∨ t = 7 ∨ t = 8 ∨ t = 9 ∨ t = 10 ∨ t = 11 ∨ t = 12 ∨ t = 13 ∨ t = 14 ∨ t = 15 := by omega
      rcases this with rfl | rfl | rfl | rfl | rfl | rfl | rfl | rfl | rfl | rfl | rfl | rfl | rfl | rfl | rfl | rfl <;> rfl
    · have h0 : t / 16 = (t - 16) / 16 + 1 := by omega
      have h1 : t % 16 = (t - 16) % 16 := by omega
      rw [h0, h1]
      simp only [getD']
      have := getE_unkE n (t - 16)
      unfold getE at this
      rw [this]
      by_cases h2 : t - 16 < 16 * n
      · rw [if_pos h2, if_pos (by omega)]
      · rw [if_neg h2, if_neg (by omega)]
theorem getE_putL : ∀ (l : List (Nat × Value)) (e : Env) (t : Nat), getE (putL l e) t = match l.find? (fun x => x.1 == t) with | some x => x.2 | none => getE e t
  | [], e, t => rfl
  | x :: l, e, t => by
    rw [putL, getE_putE, List.find?_cons]
    by_cases h : x.1 = t
    · rw [if_pos h.symm]
      have : (x.1 == t) = true := by simpa using h
      rw [this]
    · rw [if_neg (fun e => h e.symm)]
      have : (x.1 == t) = false := by simpa using h
      rw [this]
      exact getE_putL l e t
theorem mkE_get (nt : Nat) (l : List (Nat × Value)) (t : Nat) : (∃ v, (t, v) ∈ l ∧ getE (mkE nt l) t = v) ∨ getE (mkE nt l) t = unk ∨ (nt ≤ t ∧ getE (mkE nt l) t = undef) := by
  unfold mkE
  rw [getE_putL]
  cases hf : l.find? (fun x => x.1 == t) with
  | some x =>
    have h1 := List.mem_of_find?_eq_some hf
    have h2 := List.find?_some hf
    have h2 : x.1 = t := by simpa using h2
    exact .inl ⟨x.2, by rw [← h2]; exact h1, rfl⟩
  | none =>
    simp only []
    rw [getE_unkE]
    by_cases h : t < 16 * (nt / 16 + 1)
    · rw [if_pos h]; exact .inr (.inl rfl)
    · rw [if_neg h]; exact .inr (.inr ⟨by omega, rfl⟩)
/-- What is known of some temporaries. -/
theorem fits_mk {r : Ren} {nt : Nat} {a : Act} {l : List (Nat × Value)} (hs : a.tmps.size = nt) (hd : a.defers = []) (h : ∀ x ∈ l, Tv r x.2 (a.tmps.getD x.1 undef)) : Fits r nt (mkE nt l) a := by
  refine ⟨hs, hd, fun (t : Nat) => ?_⟩
  unfold Tm
  rcases mkE_get nt l t with ⟨v, h1, h2⟩ | h1 | ⟨h1, h2⟩
  · rw [h2]; exact h (t, v) h1
  · rw [h1]; exact .inl rfl
  · rw [h2]
    refine .inr ⟨?_, bnd_undef _⟩
    rw [val_undef, Array.getD_eq_getD_getElem?, Array.getElem?_eq_none (by omega)]; rfl
/-- The listed temporaries are so in the frame, under other letters. -/
def SeenL (d : Nat) (p : Nat → Bool) (σ : Nat → Nat) (e1 : Env) : List (Nat × Value) → Prop
  | [] => True
  | x :: l => (okV p d x.2 = true ∧ getE e1 x.1 = rnV σ d x.2) ∧ SeenL d p σ e1 l
theorem SeenL.mem {d : Nat} {p : Nat → Bool} {σ : Nat → Nat} {e1 : Env} : ∀ {l : List (Nat × Value)}, SeenL d p σ e1 l → ∀ x ∈ l, okV p d x.2 = true ∧ getE e1 x.1 = rnV σ d x.2
  | [], _, x, hx => nomatch hx
  | y :: l, h, x, hx => by
    rcases List.mem_cons.1 hx with rfl | hx
    · exact h.1
    · exact SeenL.mem h.2 x hx
theorem SeenL.fits {r1 : Ren} {nt d : Nat} {p : Nat → Bool} {σ : Nat → Nat} {e1 : Env} {l : List (Nat × Value)} {a : Act} (h : SeenL d p σ e1 l) (hσ : ∀ l, l < NG → σ l = l) (hf : Fits r1 nt e1 a) : Fits (r1.by σ p) nt (mkE nt l) a := by
  refine fits_mk hf.size hf.defers fun x hx => ?_
  obtain ⟨h1, h2⟩ := h.mem x hx
  have hT := hf.tmps x.1
  unfold Tm at hT
  rw [h2] at hT
  rcases hT with h | ⟨h3, h4⟩
  · rw [isU_rn] at h; exact .inl h
  · exact .inr ⟨by rw [h3, rn_val hσ d _ h1], rn_bnd d _ h1 h4⟩

/-! What is to be shown of a finite heap, one by one. -/
def opB : Option (Nat × Nat) → Option (Nat × Nat) → Bool
  | none, none => true
  | some a, some b => Nat.beq a.1 b.1 && Nat.beq a.2 b.2
  | _, _ => false
theorem opB_eq {a b : Option (Nat × Nat)} (h : opB a b = true) : a = b := by
  cases a <;> cases b <;> first | rfl | (cases h; done) | skip
  simp only [opB, Bool.and_eq_true] at h
  rename_i x y
  obtain ⟨x1, x2⟩ := x
  obtain ⟨y1, y2⟩ := y
  have h1 := Nat.eq_of_beq_eq_true h.1
  have h2 := Nat.eq_of_beq_eq_true h.2
  simp only [] at h1 h2
  rw [h1, h2]
def looseB (k : Blk) : Bool := !k.rw && opB k.op (some (0, 0)) && noIt k.it
theorem looseB_is {k : Blk} (h : looseB k = true) : Loose k := by
  simp only [looseB, Bool.and_eq_true, Bool.not_eq_true'] at h
  exact ⟨h.1.1, opB_eq h.1.2, noIt_none h.2⟩
def itSame : Option (ByteArray × Nat) → Option (ByteArray × Nat) → Prop
  | none, none => True
  | some a, some b => a = b
  | _, _ => False
theorem itSame_eq {a b : Option (ByteArray × Nat)} (h : itSame a b) : a = b := by
  cases a <;> cases b <;> first | rfl | exact h.elim | (rw [show _ = _ from h])
def SeenH (d : Nat) (p : Nat → Bool) (σ : Nat → Nat) (h1 : Heap) : Heap → Prop
  | [] => True
  | x :: l => (p x.1 = true ∧ x.2.cells.all (okV p d) = true ∧ (match x.2.op with | none => true | some q => p q.1) = true ∧
      (match look h1 (σ x.1) with
       | none => False
       | some k1 => (!x.2.rw || k1.rw) = true ∧ (opB k1.op (x.2.op.map fun q => (σ q.1, q.2)) || looseB x.2) = true ∧ itSame k1.it x.2.it ∧ k1.cells = x.2.cells.map (rnV σ d))) ∧ SeenH d p σ h1 l
theorem look_mem : ∀ {h : Heap} {g : Nat} {k : Blk}, look h g = some k → (g, k) ∈ h
  | [], g, k, hk => by cases hk
  | x :: h, g, k, hk => by
    rw [look_cons] at hk
    split at hk
    · rename_i e; subst e; cases hk; exact List.mem_cons_self ..
    · exact List.mem_cons_of_mem _ (look_mem hk)
theorem SeenH.mem {d : Nat} {p : Nat → Bool} {σ : Nat → Nat} {h1 : Heap} : ∀ {l : Heap}, SeenH d p σ h1 l → ∀ x ∈ l, p x.1 = true ∧ (∀ v ∈ x.2.cells, okV p d v = true) ∧ (∀ q, x.2.op = some q → p q.1 = true) ∧
      ∃ k1, look h1 (σ x.1) = some k1 ∧ (x.2.rw = true → k1.rw = true) ∧ (k1.op = x.2.op.map (fun q => (σ q.1, q.2)) ∨ Loose x.2) ∧ k1.it = x.2.it ∧ k1.cells = x.2.cells.map (rnV σ d)
  | [], _, x, hx => nomatch hx
  | y :: l, h, x, hx => by
    rcases List.mem_cons.1 hx with rfl | hx
    · obtain ⟨a, b, c, e⟩ := h.1
      refine ⟨a, fun v hv => List.all_eq_true.1 b v hv, fun q hq => by rw [hq] at c; exact c, ?_⟩
      split at e
      · exact e.elim
      · rename_i k1 hk1
        refine ⟨k1, hk1, fun hrw => ?_, ?_, itSame_eq e.2.2.1, e.2.2.2⟩
        · have := e.1
          rw [hrw] at this
          simpa using this
        · have := e.2.1
          rw [Bool.or_eq_true] at this
          exact this.imp opB_eq looseB_is
    · exact SeenH.mem h.2 x hx
/-- the listed bound is at least so much -/
def loHas : List (Nat × Nat) → Nat → Nat → Prop
  | [], _, _ => False
  | y :: l, k, m => bif Nat.beq y.1 k then m ≤ y.2 else loHas l k m
theorem loHas_mem : ∀ {l : List (Nat × Nat)} {k m : Nat}, loHas l k m → ∃ m', (k, m') ∈ l ∧ m ≤ m'
  | [], k, m, h => h.elim
  | y :: l, k, m, h => by
    simp only [loHas] at h
    cases hb : Nat.beq y.1 k <;> rw [hb] at h
    · obtain ⟨m', h1, h2⟩ := loHas_mem h
      exact ⟨m', List.mem_cons_of_mem _ h1, h2⟩
    · have := Nat.eq_of_beq_eq_true hb
      subst this
      exact ⟨y.2, List.mem_cons_self .., h⟩
def SeenO (p : Nat → Bool) (σ : Nat → Nat) (l1 : List (Nat × Nat)) : List (Nat × Nat) → Prop
  | [] => True
  | x :: l => (p x.1 = true ∧ loHas l1 (σ x.1) x.2) ∧ SeenO p σ l1 l
theorem SeenO.mem {p : Nat → Bool} {σ : Nat → Nat} {l1 : List (Nat × Nat)} : ∀ {l : List (Nat × Nat)}, SeenO p σ l1 l → ∀ x ∈ l, p x.1 = true ∧ ∃ m, (σ x.1, m) ∈ l1 ∧ x.2 ≤ m
  | [], _, x, hx => nomatch hx
  | y :: l, h, x, hx => by
    rcases List.mem_cons.1 hx with rfl | hx
    · exact ⟨h.1.1, loHas_mem h.1.2⟩
    · exact SeenO.mem h.2 x hx
/-- no two letters stand for one -/
def injB (σ : Nat → Nat) : Heap → Bool
  | [] => true
  | x :: l => (l.all fun y => !Nat.beq (σ x.1) (σ y.1) || Nat.beq x.1 y.1) && injB σ l
theorem injB_spec {σ : Nat → Nat} : ∀ {h : Heap}, injB σ h = true → ∀ x ∈ h, ∀ y ∈ h, σ x.1 = σ y.1 → x.1 = y.1
  | [], _, x, hx, _, _, _ => nomatch hx
  | z :: l, h, x, hx, y, hy, e => by
    simp only [injB, Bool.and_eq_true] at h
    have key : ∀ y ∈ l, σ z.1 = σ y.1 → z.1 = y.1 := fun y hy e => by
      have := List.all_eq_true.1 h.1 y hy
      rw [Bool.or_eq_true] at this
      rcases this with h | h
      · rw [e, Nat.beq_refl] at h; cases h
      · exact Nat.eq_of_beq_eq_true h
    rcases List.mem_cons.1 hx with hx' | hx' <;> rcases List.mem_cons.1 hy with hy' | hy'
    · rw [hx', hy']
    · subst hx'; exact key y hy' e
    · subst hy'; exact (key x hx' e.symm).symm
    · exact injB_spec h.2 x hx' y hy' e
theorem seenS_of {d : Nat} {p : Nat → Bool} {σ : Nat → Nat} {s1 : St} {f : Sf} (h1 : SeenH d p σ s1.h f.h) (h2 : injB σ f.h = true) (h3 : SeenO p σ s1.lo f.lo) : SeenS d p σ s1 f.st :=
  ⟨fun _ _ hk => h1.mem _ (look_mem hk), fun _ _ _ _ q1 q2 e => injB_spec h2 _ (look_mem q1) _ (look_mem q2) e, fun x hx => h3.mem x hx⟩
/-- all letters of a finite heap are such -/
def OkH (q : Nat → Bool) : Heap → Prop
  | [] => True
  | x :: l => (q x.1 = true ∧ (match x.2.op with | none => true | some p => q p.1) = true ∧ ∀ v ∈ x.2.cells, bnd q v = true) ∧ OkH q l
theorem OkH.mem {q : Nat → Bool} : ∀ {l : Heap}, OkH q l → ∀ x ∈ l, q x.1 = true ∧ (∀ p, x.2.op = some p → q p.1 = true) ∧ ∀ v ∈ x.2.cells, bnd q v = true
  | [], _, x, hx => nomatch hx
  | y :: l, h, x, hx => by
    rcases List.mem_cons.1 hx with rfl | hx
    · obtain ⟨a, b, c⟩ := h.1
      exact ⟨a, fun p hp => by rw [hp] at b; exact b, c⟩
    · exact OkH.mem h.2 x hx
/-- a small frame's letters are such -/
structure Sf.Ok (q : Nat → Bool) (f : Sf) : Prop where
  h : OkH q f.h
  lo : f.lo.all (fun x => q x.1) = true
  e : ∀ x ∈ f.e, bnd q x.2 = true
theorem Sf.Ok.s {q : Nat → Bool} {f : Sf} (h : f.Ok q) : OkS q f.st := ⟨fun _ _ hk => h.h.mem _ (look_mem hk), fun x hx => List.all_eq_true.1 h.lo x hx⟩
theorem Sf.Ok.t {q : Nat → Bool} {f : Sf} (h : f.Ok q) (nt t : Nat) : isU (getE (mkE nt f.e) t) = true ∨ bnd q (getE (mkE nt f.e) t) = true := by
  rcases mkE_get nt f.e t with ⟨v, h1, h2⟩ | h1 | ⟨_, h2⟩
  · rw [h2]; exact .inr (h.e _ h1)
  · rw [h1]; exact .inl rfl
  · rw [h2]; exact .inr (bnd_undef _)
/-- A small frame that may stand at a loop's head. -/
structure Sf.Wf (f : Sf) : Prop where
  ng : NG ≤ f.n
  ok : f.Ok (fun l => Nat.blt l f.n)
theorem Sf.Wf.wfn {f : Sf} (h : f.Wf) : WFn f.st :=
  ⟨fun g k hk => by have := (h.ok.h.mem _ (look_mem hk)).1; show g < f.n; simpa using this, fun x hx => by have := List.all_eq_true.1 h.ok.lo x hx; show x.1 < f.n; simpa using this⟩
/-- Behind a part that led from f to g stands m, of which the end comes to e. -/
structure Sf.Leads (d : Nat) (p : Nat → Bool) (σ : Nat → Nat) (f : Sf) (g : Fr) (m e : Sf) : Prop where
  σ0 : ∀ l, l < NG → σ l = l
  h : SeenH d p σ g.s.h m.h
  inj : injB σ m.h = true
  lo : SeenO p σ g.s.lo m.lo
  l : SeenL d p σ g.e m.e
  n : f.n ≤ m.n
  pn : ∀ l, m.n ≤ l → p l = false
  keep : e.Ok (keeps f.n e.n σ p)
  ro : ∀ x ∈ m.h, x.2.rw = false → σ x.1 = x.1 ∨ look f.h (σ x.1) = none

section
variable {P : Program} {call : CallK} {lp : LoopK} {nt L : Nat} {c : Code}
/-- A LOOP, by induction. -/
theorem loop_ok (hcall : SoundCall P call) {S : List Code} (hlp : SoundLoop P S lp) (hS : ∀ c' ∈ loops c, c' ∈ S) {X : Type} (I F : X → Sf) (ex : X → Exit) (μ : X → Nat) (hI : ∀ x, (I x).Wf)
    (hround : ∀ x, ∃ T e g d p σ, evC P call lp nt L c ((I x).frT nt T) = some (e, g) ∧ g.s.O ∧
      ((e = .normal ∧ ∃ y, μ y < μ x ∧ F y = F x ∧ ex y = ex x ∧ Sf.Leads d p σ (I x) g (I y) (F x)) ∨ (e ≠ .normal ∧ e = ex x ∧ Sf.Leads d p σ (I x) g (F x) (F x)))) :
    ∀ x, LoopOk P nt c ((I x).fr nt) (ex x) ((F x).fr nt) := by
  have key : ∀ m x, μ x = m → LoopOk P nt c ((I x).fr nt) (ex x) ((F x).fr nt) := by
    intro m
    induction m using Nat.strongRecOn with
    | _ m ih =>
      intro x hm r a w Q hf hwf hg hfr hQ
      obtain ⟨T, e, g, d, p, σ, hev, hO, hcase⟩ := hround x
      have hx := hI x
      have hgl := hg.low hx.ok.s
      have hfl := hf.low (hx.ok.t nt)
      refine loopWp_unfold ?_
      refine (evC_ok hcall hlp (draw_ok hcall) L c _ _ _ hS hev hO (r.low (I x).n) a w _ hfl hwf (hgl.same rfl rfl) (low_fresh hx.ng) ?_).1
      intro r1 a1 w1 T0 hf1
      have T1 : To (r.low (I x).n) (I x).st w r1 g.s w1 := T0.start rfl rfl rfl
      rcases hcase with ⟨rfl, y, hy1, hy2, hy3, hL⟩ | ⟨hne, rfl, hL⟩
      · have hy := hI y
        have hS := seenS_of hL.h hL.inj hL.lo
        have hgy := hS.good hL.σ0 T1.good
        have hfy := hL.l.fits hL.σ0 hf1
        have hfrY : Fresh (r1.by σ p) (I y).n (F y).n := fun l hl _ => by
          have h1 : Nat.blt l NG = false := by
            cases h : Nat.blt l NG
            · rfl
            · have := hy.ng; simp at h; omega
          show (Nat.blt l NG || (p l && r1.d (σ l))) = false
          rw [h1, hL.pn l hl]; rfl
        refine ih (μ y) (by omega) y rfl (r1.by σ p) a1 w1 Q hfy hy.wfn hgy hfrY ?_
        rw [hy2, hy3]
        intro r3 a3 w3 T2 hf3
        obtain ⟨T3, hv⟩ := T1.behind hg hx.ng hL.σ0 hS T2 hL.n hfr hL.keep.s (fun g k hk => hL.ro _ (look_mem hk))
        refine hQ _ a3 w3 T3 ⟨hf3.size, hf3.defers, fun t => ?_⟩
        rcases hL.keep.t nt t with h | h
        · exact .inl h
        · exact hv _ _ h (hf3.tmps t)
      · have hS := seenS_of hL.h hL.inj hL.lo
        have hgy := hS.good hL.σ0 T1.good
        have hfy := hL.l.fits hL.σ0 hf1
        obtain ⟨T3, hv⟩ := T1.behind hg hx.ng hL.σ0 hS (To.refl hgy) hL.n hfr hL.keep.s (fun g k hk => hL.ro _ (look_mem hk))
        have := hQ _ a1 w1 T3 ⟨hfy.size, hfy.defers, fun t => by
          rcases hL.keep.t nt t with h | h
          · exact .inl h
          · exact hv _ _ h (hfy.tmps t)⟩
        cases hex : ex x with
        | normal => exact absurd hex hne
        | _ => rw [hex] at this; exact this
  exact fun x => key _ x rfl

/-! Loops shown ahead, in the run of a function. -/
/-- the listed temporaries are so -/
def sameL (e : Env) : List (Nat × Value) → Prop
  | [] => True
  | x :: l => getE e x.1 = x.2 ∧ sameL e l
def sameH (h : Heap) : Heap → Prop
  | [] => True
  | x :: l => (match look h x.1 with
      | none => False
      | some k => (!x.2.rw || k.rw) = true ∧ (opB x.2.op k.op || looseB x.2) = true ∧ itSame x.2.it k.it ∧ x.2.cells = k.cells) ∧ sameH h l
def sameO (lo : List (Nat × Nat)) : List (Nat × Nat) → Prop
  | [] => True
  | x :: l => loHas lo x.1 x.2 ∧ sameO lo l
/-- the letters of a finite heap lie below a number -/
def wfB (f : Sf) : Bool := (f.h.all fun x => Nat.blt x.1 f.n) && f.lo.all fun x => Nat.blt x.1 f.n
/-- the number of a code's first region -/
def keyC : Code → Nat
  | .region id _ _ => id + 1
  | .seq a b => match keyC a with | 0 => keyC b | n + 1 => n + 1
  | .cond _ a b => match keyC a with | 0 => keyC b | n + 1 => n + 1
  | .block _ a => keyC a
  | .loop a => keyC a
  | _ => 0
def bodyOf (P : Program) (f : FuncId) : Code := match (P.funcs[f]?).bind (·.body) with | some c => c | none => .skip
def loopOf (P : Program) (f : FuncId) (i : Nat) : Code := getD' .skip (loops (bodyOf P f)) i
/-- of numbers, none stands twice -/
def oncelB : List Nat → Bool
  | [] => true
  | x :: l => (l.all fun y => !Nat.beq x y) && oncelB l
/-- What is shown of a loop: where it is entered, how left, and what that rests on. -/
structure Ent (P : Program) where
  f : FuncId
  i : Nat
  sel : Nat → Fr → Option (Sf × Exit × Sf × Prop)
  once_ : oncelB ((loops (bodyOf P f)).map keyC) = true
  there : Nat.blt i (lenT (loops (bodyOf P f))) = true
  ok : ∀ nt fr a x b q, sel nt fr = some (a, x, b, q) → q → LoopOk P nt (loopOf P f i) (a.fr nt) x (b.fr nt)
def findE {P : Program} (f key : Nat) : List (Ent P) → Option (Ent P)
  | [] => none
  | e :: l => bif Nat.beq e.f f && Nat.beq (keyC (loopOf P e.f e.i)) key then some e else findE f key l
/-- 'the loop leads from here to there': what that rests on is asked -/
def lpOf {P : Program} (l : List (Ent P)) : FuncId → LoopK := fun g nt c f =>
  (findE g (keyC c) l).bind fun e => (e.sel nt f).bind fun x => bif Nat.beq f.s.n x.1.n && Nat.ble x.1.n x.2.2.1.n && wfB x.2.2.1 then
    some (x.2.1, ⟨mkE nt x.2.2.1.e, { n := x.2.2.1.n, h := x.2.2.1.h ++ f.s.h.filter (fun y => !(x.1.h.any fun z => z.2.rw && Nat.beq z.1 y.1)), lo := x.2.2.1.lo ++ f.s.lo, esc := f.s.esc, T := f.s.T, k := f.s.k, O := f.s.O ∧ sameL f.e x.1.e ∧ sameH f.s.h x.1.h ∧ sameO f.s.lo x.1.lo ∧ x.2.2.2 }⟩)
  else none
theorem findE_spec {f key : Nat} : ∀ {l : List (Ent P)} {e : Ent P}, findE f key l = some e → e.f = f ∧ keyC (loopOf P e.f e.i) = key
  | [], e, h => by cases h
  | x :: l, e, h => by
    simp only [findE] at h
    cases hb : (Nat.beq x.f f && Nat.beq (keyC (loopOf P x.f x.i)) key) <;> rw [hb] at h
    · exact findE_spec h
    · simp only [cond_true, Option.some.injEq] at h
      subst h
      rw [Bool.and_eq_true] at hb
      exact ⟨Nat.eq_of_beq_eq_true hb.1, Nat.eq_of_beq_eq_true hb.2⟩
theorem once_get : ∀ {l : List Nat}, oncelB l = true → ∀ (i j x : Nat), l[i]? = some x → l[j]? = some x → i = j
  | [], _, i, j, x, h, _ => by simp at h
  | y :: l, h, i, j, x, hi, hj => by
    simp only [oncelB, Bool.and_eq_true] at h
    have key : ∀ z ∈ l, y ≠ z := fun z hz e => by
      have := List.all_eq_true.1 h.1 z hz
      rw [e, Nat.beq_refl] at this; cases this
    cases i with
    | zero => cases j with
      | zero => rfl
      | succ j =>
        simp at hi hj
        exact absurd hi (key x (List.mem_of_getElem? hj))
    | succ i => cases j with
      | zero =>
        simp at hi hj
        exact absurd hj (key x (List.mem_of_getElem? hi))
      | succ j =>
        simp at hi hj
        rw [once_get h.2 i j x hi hj]
theorem Ent.code (e : Ent P) {c : Code} (hc : c ∈ loops (bodyOf P e.f)) (hk : keyC (loopOf P e.f e.i) = keyC c) : loopOf P e.f e.i = c := by
  obtain ⟨j, hj, rfl⟩ := List.getElem_of_mem hc
  have hlt : e.i < (loops (bodyOf P e.f)).length := by
    have := e.there
    rw [lenT_eq] at this
    simpa using this
  have hg := getD_get (.skip : Code) (loops (bodyOf P e.f)) e.i hlt
  have h1 : ((loops (bodyOf P e.f)).map keyC)[e.i]? = some (keyC (loopOf P e.f e.i)) := by
    rw [List.getElem?_map, hg]; rfl
  have h2 : ((loops (bodyOf P e.f)).map keyC)[j]? = some (keyC (loopOf P e.f e.i)) := by
    rw [List.getElem?_map, List.getElem?_eq_getElem hj, hk]; rfl
  have := once_get e.once_ e.i j _ h1 h2
  subst this
  rw [List.getElem?_eq_getElem hlt] at hg
  exact (Option.some.inj hg).symm
theorem sameL_mem {e : Env} : ∀ {l : List (Nat × Value)}, sameL e l → ∀ x ∈ l, getE e x.1 = x.2
  | [], _, x, hx => nomatch hx
  | y :: l, h, x, hx => by
    rcases List.mem_cons.1 hx with rfl | hx
    · exact h.1
    · exact sameL_mem h.2 x hx
theorem sameH_mem {h1 : Heap} : ∀ {l : Heap}, sameH h1 l → ∀ x ∈ l, ∃ k, look h1 x.1 = some k ∧ (x.2.op = k.op ∨ Loose x.2) ∧ x.2.cells = k.cells ∧ x.2.it = k.it ∧ (x.2.rw = true → k.rw = true)
  | [], _, x, hx => nomatch hx
  | y :: l, h, x, hx => by
    rcases List.mem_cons.1 hx with rfl | hx
    · have h := h.1
      split at h
      · exact h.elim
      · rename_i k hk
        obtain ⟨h1, h2, h3, h4⟩ := h
        rw [Bool.or_eq_true] at h2
        refine ⟨k, hk, h2.imp opB_eq looseB_is, h4, itSame_eq h3, fun hrw => ?_⟩
        rw [hrw] at h1
        simpa using h1
    · exact sameH_mem h.2 x hx
theorem sameO_mem {l1 : List (Nat × Nat)} : ∀ {l : List (Nat × Nat)}, sameO l1 l → ∀ x ∈ l, ∃ m, (x.1, m) ∈ l1 ∧ x.2 ≤ m
  | [], _, x, hx => nomatch hx
  | y :: l, h, x, hx => by
    rcases List.mem_cons.1 hx with rfl | hx
    · exact loHas_mem h.1
    · exact sameO_mem h.2 x hx
theorem lpOf_ok (l : List (Ent P)) : ∀ f fn c, P.funcs[f]? = some fn → fn.body = some c → SoundLoop P (loops c) (lpOf l f) := by
  intro g fn cb hfn hcb nt c f f' x h
  unfold lpOf at h
  replace h := Option.bind_eq_some_iff.1 h
  obtain ⟨e, he, h⟩ := h
  replace h := Option.bind_eq_some_iff.1 h
  obtain ⟨⟨a, ex, b, q⟩, hsel, h⟩ := h
  obtain ⟨hc, h⟩ := bif_some h
  simp only [Option.some.injEq, Prod.mk.injEq] at h
  obtain ⟨rfl, rfl⟩ := h
  simp only [Bool.and_eq_true, wfB] at hc
  obtain ⟨⟨h1, h2⟩, h3, h4⟩ := hc
  have h1 := Nat.eq_of_beq_eq_true h1
  have h2 := Nat.le_of_ble_eq_true h2
  have hlk : ∀ g k, look (b.h ++ f.s.h.filter (fun y => !(a.h.any fun z => z.2.rw && Nat.beq z.1 y.1))) g = some k → look b.h g = some k ∨ (look f.s.h g = some k ∧ ∀ k', look a.h g = some k' → k'.rw = false) := by
    intro g k hk
    rw [look_append] at hk
    cases he : look b.h g with
    | some k1 => rw [he] at hk; exact .inl (by simpa using hk)
    | none =>
      rw [he] at hk
      simp only [Option.none_or] at hk
      rw [look_filter (fun x => !(a.h.any fun z => z.2.rw && Nat.beq z.1 x))] at hk
      split at hk
      · rename_i hp
        refine .inr ⟨hk, fun k' hk' => ?_⟩
        simp only [Bool.not_eq_true', List.any_eq_false] at hp
        have := hp _ (look_mem hk')
        cases hrw : k'.rw
        · rfl
        · simp [hrw] at this
      · cases hk
  refine ⟨⟨by show f.s.n ≤ b.n; omega, fun h => h.1, fun hw => ⟨fun g k hk => ?_, fun x hx => ?_⟩⟩, ?_⟩
  · show g < b.n
    rcases hlk g k hk with h | ⟨h, _⟩
    · have := List.all_eq_true.1 h3 _ (look_mem h); simpa using this
    · have := hw.1 g k h; omega
  · show x.1 < b.n
    simp only [List.mem_append] at hx
    rcases hx with hx | hx
    · have := List.all_eq_true.1 h4 x hx; simpa using this
    · have := hw.2 x hx; omega
  rintro hmem ⟨_, q1, q2, q3, q4⟩ r ac w Q hf hwf hg hfr hQ
  obtain ⟨rfl, hkey⟩ := findE_spec he
  have hbody : bodyOf P e.f = cb := by unfold bodyOf; rw [hfn]; simp only [Option.bind_some, hcb]
  have hcode := e.code (by rw [hbody]; exact hmem) hkey
  have q4 := e.ok nt f a ex b q hsel q4
  rw [hcode] at q4
  have hl : ∀ g k, look a.h g = some k → ∃ k', look f.s.h g = some k' ∧ (k.op = k'.op ∨ Loose k) ∧ k.cells = k'.cells ∧ k.it = k'.it ∧ (k.rw = true → k'.rw = true) := fun g k hk => sameH_mem q2 _ (look_mem hk)
  have hg1 : Good r { a.st with lo := [] } w := hg.sub' hl (fun x hx => by cases hx)
  have hg0 : Good r a.st w := ⟨hg1.is, hg1.inj, hg1.lt, fun x hx => by
    obtain ⟨m, h1, h2⟩ := sameO_mem q3 x hx
    have := hg.lo _ h1
    exact ⟨Nat.le_trans h2 this.1, this.2⟩⟩
  have hf0 : Fits r nt (mkE nt a.e) ac := fits_mk hf.size hf.defers fun x hx => by
    have := hf.tmps x.1
    unfold Tm at this
    rw [sameL_mem q1 x hx] at this
    exact this
  have hwf0 : WFn a.st := ⟨fun g k hk => by obtain ⟨k', h, _⟩ := hl g k hk; show g < a.n; have := hwf.1 g k' h; omega, fun x hx => by
    obtain ⟨m, h1, _⟩ := sameO_mem q3 x hx
    have := hwf.2 _ h1
    show x.1 < a.n
    omega⟩
  refine q4 r ac w Q hf0 hwf0 hg0 (by show Fresh r a.n b.n; rw [← h1]; exact hfr) ?_
  intro r' a' w' T hf'
  refine hQ r' a' w' ?_ hf'
  exact compose (To.refl hg) T (fun g k hk => let ⟨k', p1, _, _, _, p2⟩ := hl g k hk; ⟨k', p1, p2⟩) hlk (fun x hx => List.mem_append.1 hx) (by show f.s.n ≤ a.n; omega) (Nat.le_refl _) (by show f.s.n ≤ b.n; omega)
end
end Go.Proofs.Ytdljpnebpoaeiaa.Sy

/-! The symbolic machine: a contract that is shown over few letters, used where there are more. -/
namespace Go.Proofs.Ytdljpnebpoaeiaa.Sy
open Go.RowKit

section
variable {r r1 : Ren} {σ : Nat → Nat} {p : Nat → Bool}
theorem bnd_rn (hσ : ∀ l, l < NG → σ l = l) : ∀ (d : Nat) (v : Value), okV p d v = true → bnd (r1.by σ p).d v = true → bnd r1.d (rnV σ d v) = true := by
  have hA : ∀ a, bndA (r1.by σ p).d a = true → bndA r1.d (rnA σ a) = true := by
    intro a h'
    unfold bndA rnA at *
    simp only [Bool.and_eq_true] at *
    refine ⟨d_by hσ h'.1, ?_⟩
    cases hs : a.spot with
    | none => rfl
    | some k => rw [hs] at h'; exact d_by hσ h'.2
  have hS : ∀ a l c, bnd (r1.by σ p).d (.slice a l c) = true → bnd r1.d (.slice (a.map (rnA σ)) l (rnC σ c)) = true := by
    intro a l c h'
    rw [bnd_slice, Bool.and_eq_true] at *
    refine ⟨?_, ?_⟩
    · cases a with
      | none => rfl
      | some a => exact hA a h'.1
    · unfold rnC
      cases hb : Nat.blt c big
      · have h2 := h'.2
        rw [hb, Bool.false_or] at h2
        simp only [cond_false, Bool.or_eq_true]
        right
        rw [show big + σ (c - big) - big = σ (c - big) by omega]
        exact d_by hσ h2
      · simp only [cond_true, hb, Bool.true_or]
  intro d
  induction d with
  | zero =>
    intro v h h'
    cases v with
    | pointer a => cases a with
      | none => exact bnd_flat0 _ rfl
      | some a => rw [bnd_ptr] at h'; simp only [rnV, Option.map_some]; rw [bnd_ptr]; exact hA a h'
    | slice a l c => exact hS a l c h'
    | agg cs =>
      simp only [rnV]
      rw [bnd_agg, Array.all_eq_true_iff_forall_mem]
      exact fun v hv => bnd_flat0 _ (List.all_eq_true.1 h v (by simpa using hv))
    | tuple cs =>
      simp only [rnV]
      rw [bnd_tuple, Array.all_eq_true_iff_forall_mem]
      exact fun v hv => bnd_flat0 _ (List.all_eq_true.1 h v (by simpa using hv))
    | _ => exact bnd_flat0 _ h
  | succ d ih =>
    intro v h h'
    have hl : ∀ cs : Array Value, cs.toList.all (okV p d) = true → cs.all (bnd (r1.by σ p).d) = true → ∀ v ∈ cs.toList.map (rnV σ d), bnd r1.d v = true := fun cs h1 h2 v hv => by
      obtain ⟨u, hu, rfl⟩ := List.mem_map.1 hv
      exact ih u (List.all_eq_true.1 h1 u hu) (Array.all_eq_true_iff_forall_mem.1 h2 u (by simpa using hu))
    cases v with
    | pointer a => cases a with
      | none => exact bnd_flat0 _ rfl
      | some a => rw [bnd_ptr] at h'; simp only [rnV, Option.map_some]; rw [bnd_ptr]; exact hA a h'
    | slice a l c => exact hS a l c h'
    | agg cs =>
      rw [bnd_agg] at h'
      simp only [rnV]
      rw [bnd_agg, Array.all_eq_true_iff_forall_mem]
      exact fun v hv => hl cs h h' v (by simpa using hv)
    | tuple cs =>
      rw [bnd_tuple] at h'
      simp only [rnV]
      rw [bnd_tuple, Array.all_eq_true_iff_forall_mem]
      exact fun v hv => hl cs h h' v (by simpa using hv)
    | func fn a b =>
      simp only [okV, Bool.and_eq_true] at h
      rw [bnd_func, Bool.and_eq_true, Bool.and_eq_true] at h'
      simp only [rnV]
      rw [bnd_func, Bool.and_eq_true, Bool.and_eq_true]
      refine ⟨⟨h'.1.1, ?_⟩, ?_⟩
      · exact Array.all_eq_true_iff_forall_mem.2 fun v hv => hl a h.1.2 h'.1.2 v (by simpa using hv)
      · exact Array.all_eq_true_iff_forall_mem.2 fun v hv => hl b h.2 h'.2 v (by simpa using hv)
    | iface t v =>
      rw [bnd_iface] at h'
      simp only [rnV]
      rw [bnd_iface]
      exact ih v h h'
    | _ => exact bnd_flat0 _ h
end

/-- A block under other letters. -/
def rnB (σ : Nat → Nat) (d : Nat) (k : Blk) : Blk := ⟨k.rw, k.op.map fun q => (σ q.1, q.2), k.cells.map (rnV σ d), k.it⟩
def rnH (σ : Nat → Nat) (d : Nat) (h : Heap) : Heap := h.map fun x => (σ x.1, rnB σ d x.2)
theorem look_rnH {σ : Nat → Nat} {d : Nat} : ∀ {h : Heap} {l : Nat} {k' : Blk}, look (rnH σ d h) l = some k' → ∃ g k, look h g = some k ∧ l = σ g ∧ k' = rnB σ d k
  | [], l, k', h => by cases h
  | x :: h, l, k', hk => by
    unfold rnH at hk
    rw [List.map_cons, look_cons] at hk
    split at hk
    · rename_i e
      cases hk
      exact ⟨x.1, x.2, by rw [look_cons, if_pos rfl], e, rfl⟩
    · rename_i e
      obtain ⟨g, k, h1, h2, h3⟩ := look_rnH hk
      refine ⟨g, k, ?_, h2, h3⟩
      rw [look_cons, if_neg]
      · exact h1
      · intro e'; subst e'; exact e h2
/-- the letters of few, among more; those that are new lie behind -/
def lift (n N : Nat) (ρ : List Nat) (l : Nat) : Nat := bif Nat.blt l NG then l else bif Nat.blt l n then getD' 0 ρ (l - NG) else N + (l - n)
theorem lift_ng {n N : Nat} {ρ : List Nat} (l : Nat) (h : l < NG) : lift n N ρ l = l := by
  unfold lift; rw [(Nat.blt_eq).mpr h]; rfl
theorem lift_new {n N : Nat} {ρ : List Nat} {l : Nat} (hn : NG ≤ n) (h : n ≤ l) : lift n N ρ l = N + (l - n) := by
  unfold lift
  have h1 : Nat.blt l NG = false := by
    cases h1 : Nat.blt l NG
    · rfl
    · simp at h1; omega
  have h2 : Nat.blt l n = false := by
    cases h1 : Nat.blt l n
    · rfl
    · simp at h1; omega
  rw [h1, h2]; rfl

section
variable {P : Program} {r r3 : Ren} {s : St} {w w' : World} {n n' N d : Nat} {ρ : List Nat} {h0 h1 : Heap} {lo0 lo1 : List (Nat × Nat)}
/-- What the new letters are, and those that were. -/
def Ren.lift (r r3 : Ren) (n n' N : Nat) : Ren :=
  ⟨fun l => bif r.d l then r.b l else r3.b (n + (l - N)), fun l => bif r.d l then r.w l else r3.w (n + (l - N)), fun l => bif r.d l then r.o l else r3.o (n + (l - N)), fun l => bif r.d l then r.c l else r3.c (n + (l - N)),
    fun l => r.d l || (Nat.ble N l && Nat.blt l (N + (n' - n)) && r3.d (n + (l - N))),
    fun l h => by rw [r.hd l h]; exact r.hb l h, fun l h => by rw [r.hd l h]; exact r.hw l h, fun l h => by rw [r.hd l h]; rfl⟩
theorem lift_ext (r r3 : Ren) (n n' N : Nat) : Ext r (r.lift r3 n n' N) :=
  ⟨fun g h => by simp [Ren.lift, h], fun g h => by simp [Ren.lift, h], fun g h => by simp [Ren.lift, h], fun g h => by simp [Ren.lift, h], fun g h => by simp [Ren.lift, h]⟩
theorem by_ext (hNG : NG ≤ n) (hn : n ≤ n') (hfr : Fresh r N (N + (n' - n))) (T : ∀ g, r3.d g = true → (r.by (Sy.lift n N ρ) (fun l => Nat.blt l n)).d g = true ∨ (n ≤ g ∧ g < n'))
    (E : Ext (r.by (Sy.lift n N ρ) (fun l => Nat.blt l n)) r3) : Ext r3 ((r.lift r3 n n' N).by (Sy.lift n N ρ) (fun l => Nat.blt l n')) := by
  have hσ := lift_ng (n := n) (N := N) (ρ := ρ)
  have key : ∀ g, r3.d g = true → (Nat.blt g n' = true) ∧ (r.lift r3 n n' N).d (Sy.lift n N ρ g) = true ∧ (r.lift r3 n n' N).b (Sy.lift n N ρ g) = r3.b g ∧ (r.lift r3 n n' N).w (Sy.lift n N ρ g) = r3.w g ∧ (r.lift r3 n n' N).o (Sy.lift n N ρ g) = r3.o g ∧ (r.lift r3 n n' N).c (Sy.lift n N ρ g) = r3.c g := by
    intro g hg
    rcases T g hg with h | ⟨h1, h2⟩
    · have hlt : g < n := by
        simp only [Ren.by, Bool.or_eq_true, Bool.and_eq_true] at h
        rcases h with h | h
        · simp at h; omega
        · simpa using h.1
      have hd := d_by hσ h
      have L := lift_ext r r3 n n' N
      refine ⟨by simp; omega, L.d _ hd, ?_, ?_, ?_, ?_⟩
      · rw [L.b _ hd, E.b g h, by_b hσ]
      · rw [L.w _ hd, E.w g h, by_w hσ]
      · rw [L.o _ hd, E.o g h]; rfl
      · rw [L.c _ hd, E.c g h]; rfl
    · rw [lift_new hNG h1]
      have hf := hfr (N + (g - n)) (by omega) (by omega)
      have e : n + (N + (g - n) - N) = g := by omega
      have a1 : Nat.ble N (N + (g - n)) = true := Nat.ble_eq_true_of_le (by omega)
      have a2 : Nat.blt (N + (g - n)) (N + (n' - n)) = true := (Nat.blt_eq).mpr (by omega)
      simp only [Ren.lift, hf, cond_false, e, a1, a2, hg, Bool.false_or, Bool.and_self, and_self, and_true]
      simpa using h2
  exact ⟨fun g hg => by_d (key g hg).1 (key g hg).2.1, fun g hg => by rw [by_b hσ]; exact (key g hg).2.2.1, fun g hg => by rw [by_w hσ]; exact (key g hg).2.2.2.1, fun g hg => (key g hg).2.2.2.2.1, fun g hg => (key g hg).2.2.2.2.2⟩

/-- A step over few letters, among more. -/
theorem To.lift (hg : Good r s w) (hfr : Fresh r s.n (s.n + (n' - n))) (hNG : NG ≤ n) (hn : n ≤ n')
    (hS : SeenS d (fun l => Nat.blt l n) (Sy.lift n s.n ρ) s ⟨n, h0, lo0, 0, [], 0, True⟩) (T : To (r.by (Sy.lift n s.n ρ) (fun l => Nat.blt l n)) ⟨n, h0, lo0, 0, [], 0, True⟩ w r3 ⟨n', h1, lo1, 0, [], 0, True⟩ w')
    (hok : ∀ g k, look h1 g = some k → ∀ v ∈ k.cells, okV (fun l => Nat.blt l n') d v = true) (sZ : St) (hZn : sZ.n = s.n + (n' - n))
    (hZh : ∀ g k, look sZ.h g = some k → look (rnH (Sy.lift n s.n ρ) d h1) g = some k ∨ (look s.h g = some k ∧ ∀ g0 k0, look h0 g0 = some k0 → k0.rw = true → Sy.lift n s.n ρ g0 ≠ g))
    (hZl : ∀ x ∈ sZ.lo, x ∈ s.lo ∨ ∃ y ∈ lo1, x = (Sy.lift n s.n ρ y.1, y.2)) :
    To r s w (r.lift r3 n n' s.n) sZ w' ∧ ∀ v, okV (fun l => Nat.blt l n') d v = true → bnd r3.d v = true → (r.lift r3 n n' s.n).val (rnV (Sy.lift n s.n ρ) d v) = r3.val v ∧ bnd (r.lift r3 n n' s.n).d (rnV (Sy.lift n s.n ρ) d v) = true := by
  have hσ := lift_ng (n := n) (N := s.n) (ρ := ρ)
  have E := by_ext (ρ := ρ) hNG hn hfr T.dom T.ext
  have L := lift_ext r r3 n n' s.n
  have hval : ∀ v, okV (fun l => Nat.blt l n') d v = true → bnd r3.d v = true → (r.lift r3 n n' s.n).val (rnV (Sy.lift n s.n ρ) d v) = r3.val v ∧ bnd (r.lift r3 n n' s.n).d (rnV (Sy.lift n s.n ρ) d v) = true := by
    intro v h1 h2
    refine ⟨?_, bnd_rn hσ d v h1 (bnd_mono E.d v h2)⟩
    rw [rn_val hσ d v h1, val_ext E v h2]
  -- the small states under the letters of the many
  have hin : ∀ g k, look (rnH (Sy.lift n s.n ρ) d h0) g = some k → ∃ k', look s.h g = some k' ∧ (k.op = k'.op ∨ (k.rw = false ∧ k.op = some (0, 0) ∧ k.it = none)) ∧ k.cells = k'.cells ∧ k.it = k'.it ∧ (k.rw = true → k'.rw = true) := by
    intro g k hk
    obtain ⟨g0, k0, q1, rfl, rfl⟩ := look_rnH hk
    obtain ⟨_, _, _, k1, q2, q3, q4, q5, q6⟩ := hS.heap g0 k0 q1
    refine ⟨k1, q2, ?_, q6.symm, q5.symm, q3⟩
    rcases q4 with q4 | ⟨q4, q4', q4''⟩
    · exact .inl q4.symm
    · refine .inr ⟨q4, ?_, q4''⟩
      simp only [rnB, q4', Option.map_some]
      rw [hσ 0 (by decide)]
  have hb3 : ∀ g k, look h1 g = some k → (r.lift r3 n n' s.n).b (Sy.lift n s.n ρ g) = r3.b g ∧ (r.lift r3 n n' s.n).w (Sy.lift n s.n ρ g) = r3.w g ∧ (r.lift r3 n n' s.n).d (Sy.lift n s.n ρ g) = true := by
    intro g k hk
    have hd := (T.good.lt g k hk).1
    refine ⟨?_, ?_, d_by hσ (E.d g hd)⟩
    · rw [← E.b g hd, by_b hσ]
    · rw [← E.w g hd, by_w hσ]
  have hc3 : ∀ l, r3.d l = true → (r.lift r3 n n' s.n).c (Sy.lift n s.n ρ l) = r3.c l ∧ (r.lift r3 n n' s.n).d (Sy.lift n s.n ρ l) = true := by
    intro l hl
    exact ⟨E.c l hl, d_by hσ (E.d l hl)⟩
  have hsm : ∀ g0 k0, look h0 g0 = some k0 → look (rnH (Sy.lift n s.n ρ) d h0) (Sy.lift n s.n ρ g0) ≠ none := by
    intro g0 k0 hk
    have : ∀ (h : Heap), look h g0 = some k0 → look (rnH (Sy.lift n s.n ρ) d h) (Sy.lift n s.n ρ g0) ≠ none := by
      intro h
      induction h with
      | nil => intro e; cases e
      | cons x h ih =>
        intro e
        unfold rnH
        rw [List.map_cons, look_cons]
        split
        · simp
        · rename_i hne
          rw [look_cons] at e
          split at e
          · rename_i e'; subst e'; exact absurd rfl hne
          · exact ih e
    exact this h0 hk
  have hsm2 : ∀ g0 k0, look h0 g0 = some k0 → ∃ k, look (rnH (Sy.lift n s.n ρ) d h0) (Sy.lift n s.n ρ g0) = some k ∧ k.rw = k0.rw := by
    intro g0 k0 hk
    cases he : look (rnH (Sy.lift n s.n ρ) d h0) (Sy.lift n s.n ρ g0) with
    | none => exact absurd he (hsm g0 k0 hk)
    | some k =>
      obtain ⟨g1, k1, q1, q2, rfl⟩ := look_rnH he
      have : g0 = g1 := hS.inj g0 g1 k0 k1 hk q1 q2
      subst this
      rw [hk] at q1
      cases q1
      exact ⟨_, rfl, rfl⟩
  have hb0 : ∀ g0 k0, look h0 g0 = some k0 → (r.by (Sy.lift n s.n ρ) (fun l => Nat.blt l n)).b g0 = r.b (Sy.lift n s.n ρ g0) := fun g0 k0 _ => by rw [by_b hσ]
  have T' : To r { s with h := rnH (Sy.lift n s.n ρ) d h0 } w (r.lift r3 n n' s.n) ⟨s.n + (n' - n), rnH (Sy.lift n s.n ρ) d h1, lo1.map fun y => (Sy.lift n s.n ρ y.1, y.2), 0, [], 0, True⟩ w' := by
    refine ⟨L, fun g h => ?_, by show s.n ≤ s.n + (n' - n); omega, hg.sub' hin (fun _ h => h), ⟨fun g k hk => ?_, fun g g' k k' e1 e2 hrw e3 => ?_, fun g k hk => ?_, fun x hx => ?_⟩, T.os, T.tape, T.output, T.size, fun b hb hnb => ?_, fun g k hk => ?_⟩
    · simp only [Ren.lift, Bool.or_eq_true, Bool.and_eq_true, Nat.blt_eq] at h
      rcases h with h | h
      · exact .inl h
      · exact .inr ⟨Nat.le_of_ble_eq_true h.1.1, h.1.2⟩
    · obtain ⟨g0, k0, q1, rfl, rfl⟩ := look_rnH hk
      obtain ⟨b1, b2, _⟩ := hb3 g0 k0 q1
      obtain ⟨l1, l2, l3⟩ := T.good.lt g0 k0 q1
      rcases T.good.is g0 k0 q1 with ⟨hi, arr, ty, fr, c1, c2, c3, c4⟩ | ⟨x, c1, c2, c3, c4, c5⟩
      · refine .inl ⟨hi, arr, ty, fr, by rw [b1]; exact c1, ?_, fun j v hj => ?_, c4⟩
        · rw [b2]
          cases hop : k0.op with
          | none => rw [hop] at c2; simp only [rnB, hop, Option.map_none, List.length_map]; exact c2
          | some q =>
            rw [hop] at c2
            simp only [rnB, hop, Option.map_some, List.length_map]
            rw [(hc3 q.1 (l2 q hop)).1]; exact c2
        · simp only [rnB, List.getElem?_map, Option.map_eq_some_iff] at hj
          obtain ⟨u, hu, rfl⟩ := hj
          have hm := List.mem_of_getElem? hu
          rw [b2, (hval u (hok g0 k0 q1 u hm) (l3 u hm).1).1]
          exact c3 j u hu
      · exact .inr ⟨x, c1, by rw [b1]; exact c2, by simp only [rnB, c3, List.map_nil], by simp only [rnB, c4, Option.map_none], by rw [b2]; exact c5⟩
    · obtain ⟨g0, k0, q1, rfl, rfl⟩ := look_rnH e1
      obtain ⟨g0', k0', q1', rfl, rfl⟩ := look_rnH e2
      rw [(hb3 g0 k0 q1).1, (hb3 g0' k0' q1').1] at e3
      rw [T.good.inj g0 g0' k0 k0' q1 q1' hrw e3]
    · obtain ⟨g0, k0, q1, rfl, rfl⟩ := look_rnH hk
      obtain ⟨l1, l2, l3⟩ := T.good.lt g0 k0 q1
      refine ⟨(hb3 g0 k0 q1).2.2, fun q hq => ?_, fun v hv => ?_⟩
      · simp only [rnB, Option.map_eq_some_iff] at hq
        obtain ⟨q0, hq0, rfl⟩ := hq
        exact (hc3 q0.1 (l2 q0 hq0)).2
      · simp only [rnB, List.mem_map] at hv
        obtain ⟨u, hu, rfl⟩ := hv
        exact ⟨(hval u (hok g0 k0 q1 u hu) (l3 u hu).1).2, by rw [rn_oneCell]; exact (l3 u hu).2⟩
    · obtain ⟨y, hy, rfl⟩ := List.mem_map.1 hx
      have := T.good.lo y hy
      obtain ⟨c1, c2⟩ := hc3 y.1 this.2
      exact ⟨by show y.2 ≤ (r.lift r3 n n' s.n).c (Sy.lift n s.n ρ y.1); rw [c1]; exact this.1, c2⟩
    · refine T.frame b hb fun g0 k0 hk0 hrw e => ?_
      obtain ⟨k, q1, q2⟩ := hsm2 g0 k0 hk0
      exact hnb _ k q1 (by rw [q2]; exact hrw) (by rw [← hb0 g0 k0 hk0]; exact e)
    · obtain ⟨g0, k0, q1, rfl, rfl⟩ := look_rnH hk
      rw [(hb3 g0 k0 q1).1]
      rcases T.own g0 k0 q1 with ⟨k1, q2, q3⟩ | q2 | ⟨g1, k1, q2, q3, q4⟩
      · obtain ⟨k2, q4, q5⟩ := hsm2 g0 k1 q2
        exact .inl ⟨k2, q4, fun h => by rw [q5]; exact q3 h⟩
      · exact .inr (.inl q2)
      · obtain ⟨k2, q5, q6⟩ := hsm2 g1 k1 q2
        exact .inr (.inr ⟨_, k2, q5, by rw [q6]; exact q3, by rw [← hb0 g1 k1 q2]; exact q4⟩)
  refine ⟨compose (To.refl hg) T' (fun g k hk => let ⟨k', q1, _, _, _, q2⟩ := hin g k hk; ⟨k', q1, q2⟩) (fun g k hk => ?_) (fun x hx => ?_) (Nat.le_refl _) (by show s.n + (n' - n) ≤ sZ.n; omega) (by omega), hval⟩
  · rcases hZh g k hk with h | ⟨h, h2⟩
    · exact .inl h
    · refine .inr ⟨h, fun k' hk' => ?_⟩
      obtain ⟨g0, k0, q1, rfl, rfl⟩ := look_rnH hk'
      cases hrw : k0.rw
      · exact hrw
      · exact absurd rfl (h2 g0 k0 q1 hrw)
  · rcases hZl x hx with h | ⟨y, hy, rfl⟩
    · exact .inr h
    · exact .inl (List.mem_map_of_mem hy)
end

/-! Contracts. -/
structure Con where
  args : List Value
  n : Nat
  h : Heap
  lo : List (Nat × Nat)
  res : Value
  n' : Nat
  h' : Heap
  lo' : List (Nat × Nat)
def Con.s0 (c : Con) : St := ⟨c.n, c.h, c.lo, 0, [], 0, True⟩
def Con.s1 (c : Con) : St := ⟨c.n', c.h', c.lo', 0, [], 0, True⟩
structure ConOk (P : Program) (f : FuncId) (d : Nat) (c : Con) : Prop where
  enters : Enters P f
  calls : CallOk P f c.args c.s0 c.res c.s1
  ng : NG ≤ c.n
  le : c.n ≤ c.n'
  wf0 : WFn c.s0
  wf1 : WFn c.s1
  args : ∀ v ∈ c.args, okV (fun l => Nat.blt l c.n) d v = true
  res : okV (fun l => Nat.blt l c.n') d c.res = true
  ok : ∀ g k, look c.h' g = some k → ∀ v ∈ k.cells, okV (fun l => Nat.blt l c.n') d v = true

def sameA (σ : Nat → Nat) (d : Nat) : List Value → List Value → Prop
  | [], [] => True
  | a :: x, b :: y => a = rnV σ d b ∧ sameA σ d x y
  | _, _ => False
theorem sameA_eq {σ : Nat → Nat} {d : Nat} : ∀ {x y : List Value}, sameA σ d x y → x = y.map (rnV σ d)
  | [], [], _ => rfl
  | a :: x, b :: y, h => by rw [List.map_cons, ← h.1, ← sameA_eq h.2]
  | [], _ :: _, h => h.elim
  | _ :: _, [], h => h.elim
/-- The contract, among more letters: ρ says which stand for those of the contract. -/
def Con.use (q : Prop) (d : Nat) (c : Con) (ρ : List Nat) (args : List Value) (s : St) : Res :=
  bif (c.h'.all fun x => Nat.blt (lift c.n s.n ρ x.1) (s.n + (c.n' - c.n))) && (c.lo'.all fun x => Nat.blt (lift c.n s.n ρ x.1) (s.n + (c.n' - c.n))) && injB (lift c.n s.n ρ) c.h then
    some (rnV (lift c.n s.n ρ) d c.res,
      { n := s.n + (c.n' - c.n),
        h := rnH (lift c.n s.n ρ) d c.h' ++ s.h.filter (fun x => !(c.h.any fun y => y.2.rw && Nat.beq (lift c.n s.n ρ y.1) x.1)),
        lo := (c.lo'.map fun y => (lift c.n s.n ρ y.1, y.2)) ++ s.lo,
        esc := s.esc, T := s.T, k := s.k,
        O := s.O ∧ q ∧ sameA (lift c.n s.n ρ) d args c.args ∧ SeenH d (fun l => Nat.blt l c.n) (lift c.n s.n ρ) s.h c.h ∧ SeenO (fun l => Nat.blt l c.n) (lift c.n s.n ρ) s.lo c.lo })
  else none
theorem Con.use_ok {P : Program} {f : FuncId} {d : Nat} {c : Con} {q : Prop} (hc : q → ConOk P f d c) {ρ : List Nat} {args : List Value} {s s' : St} {v : Value} (h : c.use q d ρ args s = some (v, s')) :
    Mono s s' ∧ (s'.O → Enters P f ∧ CallOk P f args s v s') := by
  unfold Con.use at h
  obtain ⟨hb, h⟩ := bif_some h
  simp only [Option.some.injEq, Prod.mk.injEq] at h
  obtain ⟨rfl, rfl⟩ := h
  simp only [Bool.and_eq_true] at hb
  obtain ⟨⟨hb1, hb2⟩, hb3⟩ := hb
  refine ⟨⟨Nat.le_add_right _ _, fun h => h.1, fun hw => ⟨fun g k hk => ?_, fun x hx => ?_⟩⟩, ?_⟩
  · simp only [] at hk ⊢
    rw [look_append] at hk
    have hfil : look (s.h.filter (fun x => !(c.h.any fun y => y.2.rw && Nat.beq (lift c.n s.n ρ y.1) x.1))) g = some k → g < s.n + (c.n' - c.n) := fun h => by
      rw [look_filter (fun x => !(c.h.any fun y => y.2.rw && Nat.beq (lift c.n s.n ρ y.1) x))] at h
      split at h
      · have := hw.1 g k h; omega
      · cases h
    cases he : look (rnH (lift c.n s.n ρ) d c.h') g with
    | none => rw [he] at hk; exact hfil (by simpa using hk)
    | some k1 =>
      obtain ⟨g0, k0, q1, rfl, _⟩ := look_rnH he
      simpa using List.all_eq_true.1 hb1 _ (look_mem q1)
  · simp only [List.mem_append] at hx ⊢
    rcases hx with hx | hx
    · obtain ⟨y, hy, rfl⟩ := List.mem_map.1 hx
      simpa using List.all_eq_true.1 hb2 y hy
    · have := hw.2 x hx; omega
  · rintro ⟨_, q0, q1, q2, q3⟩
    have hc := hc q0
    refine ⟨hc.enters, fun r w hwf hg hfr hbd => ?_⟩
    have hσ := lift_ng (n := c.n) (N := s.n) (ρ := ρ)
    have hS : SeenS d (fun l => Nat.blt l c.n) (lift c.n s.n ρ) s c.s0 :=
      ⟨fun g k hk => q2.mem _ (look_mem hk), fun g g' k k' e1 e2 e => injB_spec hb3 _ (look_mem e1) _ (look_mem e2) e, fun x hx => q3.mem x hx⟩
    have ha := sameA_eq q1
    have hargs : args.map r.val = c.args.map (r.by (lift c.n s.n ρ) (fun l => Nat.blt l c.n)).val := by
      rw [ha, List.map_map]
      apply List.map_congr_left
      intro v hv
      exact rn_val hσ d v (hc.args v hv)
    rw [hargs]
    have hfr0 : Fresh (r.by (lift c.n s.n ρ) (fun l => Nat.blt l c.n)) c.n c.n' := fun l hl _ => by
      have h1 : Nat.blt l NG = false := by
        cases h : Nat.blt l NG
        · rfl
        · have := hc.ng; simp at h; omega
      have h2 : Nat.blt l c.n = false := by
        cases h : Nat.blt l c.n
        · rfl
        · simp at h; omega
      show (Nat.blt l NG || (Nat.blt l c.n && r.d (lift c.n s.n ρ l))) = false
      rw [h1, h2]; rfl
    refine (hc.calls (r.by (lift c.n s.n ρ) (fun l => Nat.blt l c.n)) w hc.wf0 (hS.good hσ hg) hfr0 fun u hu => rn_bnd d u (hc.args u hu) (hbd _ (by rw [ha]; exact List.mem_map_of_mem hu))).mono ?_
    rintro e w' ⟨r3, rfl, T, hb⟩
    obtain ⟨T', hv⟩ := To.lift (d := d) (ρ := ρ) (n := c.n) (n' := c.n') (h0 := c.h) (h1 := c.h') (lo0 := c.lo) (lo1 := c.lo') hg hfr hc.ng hc.le hS T hc.ok
      { n := s.n + (c.n' - c.n), h := rnH (lift c.n s.n ρ) d c.h' ++ s.h.filter (fun x => !(c.h.any fun y => y.2.rw && Nat.beq (lift c.n s.n ρ y.1) x.1)), lo := (c.lo'.map fun y => (lift c.n s.n ρ y.1, y.2)) ++ s.lo, esc := s.esc, T := s.T, k := s.k, O := s.O ∧ q ∧ sameA (lift c.n s.n ρ) d args c.args ∧ SeenH d (fun l => Nat.blt l c.n) (lift c.n s.n ρ) s.h c.h ∧ SeenO (fun l => Nat.blt l c.n) (lift c.n s.n ρ) s.lo c.lo }
      rfl (fun g k hk => by
        simp only [] at hk
        rw [look_append] at hk
        cases he : look (rnH (lift c.n s.n ρ) d c.h') g with
        | some k1 => rw [he] at hk; exact .inl (by simpa using hk)
        | none =>
          rw [he] at hk
          simp only [Option.none_or] at hk
          rw [look_filter (fun x => !(c.h.any fun y => y.2.rw && Nat.beq (lift c.n s.n ρ y.1) x))] at hk
          split at hk
          · rename_i hp
            refine .inr ⟨hk, fun g0 k0 hk0 hrw e => ?_⟩
            simp only [Bool.not_eq_true', List.any_eq_false] at hp
            have := hp _ (look_mem hk0)
            simp [hrw, e] at this
          · cases hk) (fun x hx => by
        simp only [List.mem_append] at hx
        rcases hx with hx | hx
        · obtain ⟨y, hy, rfl⟩ := List.mem_map.1 hx
          exact .inr ⟨y, hy, rfl⟩
        · exact .inl hx)
    obtain ⟨v1, v2⟩ := hv c.res hc.res hb
    exact ⟨_, by rw [v1], T', v2⟩
end Go.Proofs.Ytdljpnebpoaeiaa.Sy

/-! The symbolic machine: contracts out of runs; contracts as a base; from a run to what a law says. -/
namespace Go.Proofs.Ytdljpnebpoaeiaa.Sy
open Go.RowKit

section
variable {P : Program} {call : CallK} {f : FuncId} {d : Nat}
/-- What a run's end is to the contract's. -/
structure Con.Ends (d : Nat) (p : Nat → Bool) (σ : Nat → Nat) (c : Con) (v : Value) (s' : St) : Prop where
  σ0 : ∀ l, l < NG → σ l = l
  h : SeenH d p σ s'.h c.h'
  inj : injB σ c.h' = true
  lo : SeenO p σ s'.lo c.lo'
  v : okV p d c.res = true ∧ v = rnV σ d c.res
  known : isU c.res = false
  keepH : OkH (keeps c.n c.n' σ p) c.h'
  keepL : c.lo'.all (fun x => keeps c.n c.n' σ p x.1) = true
  keepV : bnd (keeps c.n c.n' σ p) c.res = true
  ro : ∀ x ∈ c.h', x.2.rw = false → σ x.1 = x.1 ∨ look c.h (σ x.1) = none
/-- What a contract's words must be. -/
structure Con.Wf (d : Nat) (c : Con) : Prop where
  ng : NG ≤ c.n
  le : c.n ≤ c.n'
  h : OkH (fun l => Nat.blt l c.n) c.h
  lo : c.lo.all (fun x => Nat.blt x.1 c.n) = true
  h' : c.h'.all (fun x => Nat.blt x.1 c.n') = true
  lo' : c.lo'.all (fun x => Nat.blt x.1 c.n') = true
  args : c.args.all (okV (fun l => Nat.blt l c.n) d) = true
  res : okV (fun l => Nat.blt l c.n') d c.res = true
  ok : ∀ x ∈ c.h', ∀ v ∈ x.2.cells, okV (fun l => Nat.blt l c.n') d v = true
theorem Con.Wf.wf0 {c : Con} (h : c.Wf d) : WFn c.s0 :=
  ⟨fun g k hk => by have := (h.h.mem _ (look_mem hk)).1; show g < c.n; simpa using this, fun x hx => by have := List.all_eq_true.1 h.lo x hx; show x.1 < c.n; simpa using this⟩
theorem Con.Wf.wf1 {c : Con} (h : c.Wf d) : WFn c.s1 :=
  ⟨fun g k hk => by have := List.all_eq_true.1 h.h' _ (look_mem hk); show g < c.n'; simpa using this, fun x hx => by have := List.all_eq_true.1 h.lo' x hx; show x.1 < c.n'; simpa using this⟩
theorem conOk_run (hcall : SoundCall P call) {c : Con} (hw : c.Wf d) {T : List (Nat × Bool)} {v : Value} {s' : St} (h : call f c.args { c.s0 with T := T } = some (v, s')) (hO : s'.O) {p : Nat → Bool} {σ : Nat → Nat} (he : c.Ends d p σ v s') : ConOk P f d c := by
  obtain ⟨_, h2⟩ := hcall f c.args _ v s' h
  obtain ⟨h3, h4⟩ := h2 hO
  refine ⟨h3, fun r w hwf hg hfr hb => ?_, hw.ng, hw.le, hw.wf0, hw.wf1, fun u hu => List.all_eq_true.1 hw.args u hu, hw.res, fun g k hk => hw.ok _ (look_mem hk)⟩
  have hok : OkS (fun l => Nat.blt l c.n) c.s0 := ⟨fun g k hk => hw.h.mem _ (look_mem hk), fun x hx => List.all_eq_true.1 hw.lo x hx⟩
  have hgl : Good (r.low c.n) { c.s0 with T := T } w := (hg.low hok).same rfl rfl
  have hwf' : WFn { c.s0 with T := T } := hwf
  have hbl : ∀ u ∈ c.args, bnd (r.low c.n).d u = true := fun u hu => low_bnd (hb u hu) (okV_bnd d u (List.all_eq_true.1 hw.args u hu))
  have h5 := h4 (r.low c.n) w hwf' hgl (low_fresh hw.ng) hbl
  rw [low_val] at h5
  refine h5.mono ?_
  rintro e w' ⟨r1, rfl, T1, hb1⟩
  have T1' : To (r.low c.n) c.s0 w r1 s' w' := T1.start rfl rfl rfl
  have hS : SeenS d p σ s' c.s1 := ⟨fun g k hk => he.h.mem _ (look_mem hk), fun g g' k k' q1 q2 e => injB_spec he.inj _ (look_mem q1) _ (look_mem q2) e, fun x hx => he.lo.mem x hx⟩
  have hq : OkS (keeps c.n c.n' σ p) c.s1 := ⟨fun g k hk => he.keepH.mem _ (look_mem hk), fun x hx => List.all_eq_true.1 he.keepL x hx⟩
  obtain ⟨T3, hv⟩ := T1'.behind hg hw.ng he.σ0 hS (To.refl (hS.good he.σ0 T1.good)) hw.le hfr hq (fun g k hk => he.ro _ (look_mem hk))
  have hT := hv c.res (r1.val v) he.keepV (.inr ⟨by rw [he.v.2, rn_val he.σ0 d _ he.v.1], rn_bnd d _ he.v.1 (by rw [← he.v.2]; exact hb1)⟩)
  obtain ⟨e1, e2⟩ := hT.resolve_left (by rw [he.known]; simp)
  exact ⟨_, by rw [e1], T3, e2⟩

/-- Contracts as a base: which it is, which letters they are, and what it rests on. -/
abbrev SelC := FuncId → List Value → St → Option (Con × List Nat × Prop)
def baseC (d : Nat) (sel : SelC) : CallK := fun f args s => (sel f args s).bind fun x => x.1.use x.2.2 d x.2.1 args s
def SelOk (P : Program) (d : Nat) (sel : SelC) : Prop := ∀ f args s c ρ q, sel f args s = some (c, ρ, q) → q → ConOk P f d c
theorem baseC_ok {sel : SelC} (h : SelOk P d sel) : SoundCall P (baseC d sel) := by
  intro f args s v s' hc
  unfold baseC at hc
  replace hc := Option.bind_eq_some_iff.1 hc
  obtain ⟨⟨c, ρ, q⟩, h1, h2⟩ := hc
  exact Con.use_ok (h f args s c ρ q h1) h2
/-- one behind the other -/
def selOr (a b : SelC) : SelC := fun f args s => match a f args s with | some x => some x | none => b f args s
theorem selOr_ok {a b : SelC} (ha : SelOk P d a) (hb : SelOk P d b) : SelOk P d (selOr a b) := by
  intro f args s c ρ q h
  unfold selOr at h
  split at h
  · rename_i x hx
    simp only [Option.some.injEq] at h
    subst h
    exact ha f args s c ρ q hx
  · exact hb f args s c ρ q h
def noSel' : SelC := fun _ _ _ => none
theorem noSel_ok : SelOk P d noSel' := fun _ _ _ _ _ _ h => by cases h

/-- A function that takes no address and yields none, and leaves what stood in the heap. -/
def Con.pure (args : List Value) (v : Value) : Con := ⟨args, NG, [], [], v, NG, [], []⟩
theorem okV_flat2 {p : Nat → Bool} {v : Value} (h : flat2 v = true) : ∀ d, okV p (d + 2) v = true := by
  intro d
  have h1 : ∀ u, flat1 u = true → okV p (d + 1) u = true := by
    intro u hu
    unfold flat1 at hu
    split at hu
    · rename_i cs
      show cs.toList.all (okV p d) = true
      exact List.all_eq_true.2 fun x hx => okV_flat0 (List.all_eq_true.1 hu x hx) d
    · exact okV_flat0 hu _
  unfold flat2 at h
  split at h
  · rename_i cs
    show cs.toList.all (okV p (d + 1)) = true
    exact List.all_eq_true.2 fun x hx => h1 x (List.all_eq_true.1 h x hx)
  · have := h1 v h
    unfold flat1 at h
    split at h
    · rename_i cs _
      show cs.toList.all (okV p (d + 1)) = true
      exact List.all_eq_true.2 fun x hx => okV_flat0 (List.all_eq_true.1 h x hx) _
    · exact okV_flat0 h _
theorem Good.below {r : Ren} {s : St} {w w' : World} (hg : Good r s w) (hb : Below w.heap.size w w') : Good r s w' :=
  ⟨fun g k hk => (hg.is g k hk).heap (hb.block _ (hg.is g k hk).lt), hg.inj, hg.lt, hg.lo⟩
theorem conOk_pure {args : List Value} {v : Value} (he : Enters P f) (ha : ∀ u ∈ args, flat2 u = true) (hv : flat2 v = true) (h : ∀ w, Calls P f args.toArray w fun e w' => e = .returned v ∧ Below w.heap.size w w') : ConOk P f (d + 2) (Con.pure args v) := by
  refine ⟨he, fun r w _ hg _ _ => ?_, Nat.le_refl _, Nat.le_refl _, ⟨fun g k h => (by cases h), fun x h => (by cases h)⟩, ⟨fun g k h => (by cases h), fun x h => (by cases h)⟩, fun u hu => okV_flat2 (ha u hu) d, okV_flat2 hv d, fun g k h => (by cases h)⟩
  have hm : (Con.pure args v).args.map r.val = args := by
    show args.map r.val = args
    rw [List.map_congr_left (g := id)]
    · simp
    · intro u hu; exact val_flat2 _ (ha u hu)
  rw [hm]
  refine (h w).mono ?_
  rintro e w' ⟨rfl, hb⟩
  refine ⟨r, by show _ = Ending.returned (r.val v); rw [val_flat2 _ hv], ⟨Ext.refl _, fun _ h => .inl h, Nat.le_refl _, hg, hg.below hb, hb.os, hb.tape, hb.output, hb.size, fun b h _ => hb.block b h, fun _ k hk => .inl ⟨k, hk, id⟩⟩, bnd_flat2 _ hv⟩
/-- one run of a function that takes no address and yields none -/
def obs (x : Res) : Option (Value × Prop) := x.map fun p => (p.1, p.2.O)
def stT (T : List (Nat × Bool)) : St := ⟨NG, [], [], 0, T, 0, True⟩
theorem pure_run (hcall : SoundCall P call) {args : List Value} {T : List (Nat × Bool)} {v : Value} {q : Prop} (h : obs (call f args (stT T)) = some (v, q)) (hq : q) (ha : args.all flat2 = true) (hv : flat2 v = true) : ConOk P f (d + 2) (Con.pure args v) := by
  unfold obs at h
  obtain ⟨⟨v', s'⟩, h1, h2⟩ := Option.map_eq_some_iff.1 h
  cases h2
  obtain ⟨_, h3⟩ := hcall f args _ _ _ h1
  obtain ⟨h4, h5⟩ := h3 hq
  have ha' : ∀ u ∈ args, flat2 u = true := fun u hu => List.all_eq_true.1 ha u hu
  refine conOk_pure h4 ha' hv fun w => ?_
  have hm : args.map ren0.val = args := by
    rw [List.map_congr_left (g := id)]
    · simp
    · intro u hu; exact val_flat2 _ (ha' u hu)
  have h6 := h5 ren0 w ⟨fun g k h => (by cases h), fun x h => (by cases h)⟩ ⟨fun g k h => (by cases h), fun g g' k k' h => (by cases h), fun g k h => (by cases h), fun x h => (by cases h)⟩ (fresh0 (Nat.le_refl _)) fun u hu => bnd_flat2 _ (ha' u hu)
  rw [hm] at h6
  refine h6.mono ?_
  rintro e w' ⟨r', rfl, h7, _⟩
  exact ⟨by rw [val_flat2 _ hv], h7.below fun g k hk => by cases hk⟩
end
end Go.Proofs.Ytdljpnebpoaeiaa.Sy

/-! Words for symbolic runs: lists as cells; small laws that simplify what a run rests on. -/
namespace Go.Proofs.Ytdljpnebpoaeiaa.Sy
open Go.RowKit

def bools (bs : List Bool) : List Value := bs.map fun (b : Bool) => Value.bool b
def u32s (xs : List Nat) : List Value := xs.map fun (x : Nat) => Value.int .u32 (x : Int)
def u8s (xs : List UInt8) : List Value := xs.map fun (x : UInt8) => Value.int .u8 (x.toNat : Int)
theorem bif_true {c : Bool} {p : Prop} (h : c = true) (hp : p) : (bif c then p else False) := by subst h; exact hp
theorem getD_map {α : Type} (f : α → Value) (d : Value) (e : α) : ∀ (l : List α) (i : Nat), getD' d (l.map f) i = if i < l.length then f (l.getD i e) else d
  | [], i => by rw [if_neg (by simp)]; exact getD_nil d i
  | x :: l, 0 => by rw [if_pos (by simp)]; rfl
  | x :: l, i + 1 => by
    have := getD_map f d e l i
    simp only [List.map_cons, getD', List.length_cons, Nat.add_lt_add_iff_right, List.getD_cons_succ]
    exact this
theorem bools_at (bs : List Bool) (i : Nat) : boolOf' (getD' undef (bools bs) i) = bs.getD i false := by
  unfold bools
  rw [getD_map _ _ false]
  split
  · rfl
  · rename_i h
    rw [List.getD_eq_getElem?_getD, List.getElem?_eq_none (by omega)]; rfl
theorem bools_like (bs : List Bool) (i : Nat) (b : Bool) : isLikeL [.bool b] (bools bs) i = decide (i < bs.length) := by
  unfold bools
  simp only [isLikeL, getD_map _ _ false, Bool.and_true]
  by_cases h : i < bs.length
  · simp [h, isLike]
  · simp [h]; rfl
theorem bools_has (bs : List Bool) (n : Nat) : hasN n (bools bs) = decide (n ≤ bs.length) := by
  rw [Bool.eq_iff_iff, hasN_iff]; simp [bools]
theorem u32s_at (xs : List Nat) (i : Nat) : intOf' (getD' undef (u32s xs) i) = ((xs.getD i 0 : Nat) : Int) := by
  unfold u32s
  rw [getD_map _ _ 0]
  split
  · rfl
  · rename_i h
    rw [List.getD_eq_getElem?_getD, List.getElem?_eq_none (by omega)]; rfl
theorem u32s_like (xs : List Nat) (i : Nat) (b : Int) : isLikeL [.int .u32 b] (u32s xs) i = decide (i < xs.length) := by
  unfold u32s
  simp only [isLikeL, getD_map _ _ 0, Bool.and_true]
  by_cases h : i < xs.length
  · simp [h, isLike]
  · simp [h]; rfl
theorem u32s_has (xs : List Nat) (n : Nat) : hasN n (u32s xs) = decide (n ≤ xs.length) := by
  rw [Bool.eq_iff_iff, hasN_iff]; simp [u32s]
theorem flat_bnd {q : Nat → Bool} {l : List Value} (h : ∀ v ∈ l, flat0 v = true) : ∀ v ∈ l, bnd q v = true := fun v hv => bnd_flat0 q (h v hv)
theorem flat_ok {p : Nat → Bool} {d : Nat} {l : List Value} (h : ∀ v ∈ l, flat0 v = true) : ∀ v ∈ l, okV p d v = true := fun v hv => okV_flat0 (h v hv) d
theorem flat_all {p : Nat → Bool} {d : Nat} {l : List Value} (h : ∀ v ∈ l, flat0 v = true) : l.all (okV p d) = true := List.all_eq_true.2 (flat_ok h)
theorem rn_flat0 {σ : Nat → Nat} {v : Value} (h : flat0 v = true) : ∀ d, rnV σ d v = v := by
  intro d
  have hs : ∀ (c : Nat), Nat.blt c big = true → rnC σ c = c := fun c hc => by unfold rnC; rw [hc]; rfl
  cases d <;> cases v <;> first
    | rfl
    | (rename_i a; cases a <;> first | rfl | (simp [flat0] at h; done))
    | (rename_i a _ _; cases a <;> first | (simp [flat0] at h; done) | (simp only [rnV, Option.map_none]; rw [hs _ h]))
    | (simp [flat0] at h; done)
theorem flat_map {σ : Nat → Nat} {d : Nat} {l : List Value} (h : ∀ v ∈ l, flat0 v = true) : l.map (rnV σ d) = l := by
  rw [List.map_congr_left (g := id)]
  · simp
  · intro v hv; exact rn_flat0 (h v hv) d
theorem bools_flat (bs : List Bool) : ∀ v ∈ bools bs, flat0 v = true := fun v hv => by
  obtain ⟨b, _, rfl⟩ := List.mem_map.1 hv; rfl
theorem u32s_flat (xs : List Nat) : ∀ v ∈ u32s xs, flat0 v = true := fun v hv => by
  obtain ⟨b, _, rfl⟩ := List.mem_map.1 hv; rfl
theorem wrap_i64 {x : Int} (h : -9223372036854775808 ≤ x) (h' : x < 9223372036854775808) : IntKind.i64.wrap x = x := IntWalk.i64_in _ (by omega)
theorem rnC_id' (b c : Nat) : (bif Nat.blt c b then c else b + id (c - b)) = c := by
  cases h : Nat.blt c b
  · have : ¬ c < b := fun hc => by rw [(Nat.blt_eq).mpr hc] at h; cases h
    rw [cond_false]
    exact Nat.add_sub_of_le (Nat.le_of_not_lt this)
  · rw [cond_true]
theorem rnC_id (c : Nat) : rnC id c = c := rnC_id' big c
theorem rnV_id : ∀ (d : Nat) (v : Value), rnV id d v = v := by
  have hA : ∀ a, rnA id a = a := fun a => by cases a; simp [rnA]
  have hC : ∀ c, rnC id c = c := rnC_id
  have hO : ∀ a : Option Addr, a.map (rnA id) = a := fun a => by cases a <;> simp [hA]
  intro d
  induction d with
  | zero => intro v; cases v <;> simp [rnV, hO, hC]
  | succ d ih =>
    have hl : ∀ cs : Array Value, (⟨cs.toList.map (rnV id d)⟩ : Array Value) = cs := fun cs => by
      apply Array.ext'
      have : rnV id d = id := funext ih
      simp [this]
    intro v; cases v <;> simp only [rnV, hO, hC, hl, ih]
def hasBody (P : Program) (f : FuncId) : Bool := match (P.funcs[f]?).bind (·.body) with | some _ => true | none => false
theorem enters_b {P : Program} {f : FuncId} (hn : namesOk P = true) (h : hasBody P f = true) : Enters P f := by
  unfold hasBody at h
  cases hf : P.funcs[f]? with
  | none => rw [hf] at h; cases h
  | some fn =>
    rw [hf] at h
    simp only [Option.bind_some] at h
    cases hb : fn.body with
    | none => rw [hb] at h; cases h
    | some c => exact enters_of hn hf hb
/-- A loop that leads from here to there. -/
def entC (P : Program) (f : FuncId) (i n0 : Nat) (a : Sf) (x : Exit) (b : Sf) (o1 : oncelB ((loops (bodyOf P f)).map keyC) = true) (o2 : Nat.blt i (lenT (loops (bodyOf P f))) = true) (ok : LoopOk P n0 (loopOf P f i) (a.fr n0) x (b.fr n0)) : Ent P :=
  ⟨f, i, fun nt _ => bif Nat.beq nt n0 then some (a, x, b, True) else none, o1, o2, fun nt _ a' x' b' q h _ => by
    obtain ⟨h1, h2⟩ := bif_some h
    have h3 := Nat.eq_of_beq_eq_true h1
    cases h2
    rw [h3]; exact ok⟩
theorem noLoop_any (P : Program) (S : List Code) (f : FuncId) : SoundLoop P S (noLoop f) := fun _ _ _ _ _ h => by cases h
theorem Sf.Ok.mk' {q : Nat → Bool} {f : Sf} (d : Nat) (h : OkH q f.h) (lo : f.lo.all (fun x => q x.1) = true) (e : ∀ x ∈ f.e, okV q d x.2 = true) : f.Ok q := ⟨h, lo, fun x hx => okV_bnd d _ (e x hx)⟩
theorem blt_no {l n : Nat} (h : n ≤ l) : Nat.blt l n = false := by
  cases hb : Nat.blt l n
  · rfl
  · simp at hb; omega
theorem cast_succ_i64 (k : Nat) (h : k < 9000000000000000000) : IntKind.i64.wrap ((k : Int) + 1) = ((k + 1 : Nat) : Int) := by rw [wrap_i64 (by omega) (by omega)]; omega
end Go.Proofs.Ytdljpnebpoaeiaa.Sy

/-! The symbolic machine: contracts that write nothing that stood there, used beside a heap of which not all is known; what was opened of a law's arguments. -/
namespace Go.Proofs.Ytdljpnebpoaeiaa.Sy
open Go.RowKit

/-- What is known of the heap behind a call may be let go. -/
theorem ConOk.drop {P : Program} {f : FuncId} {d : Nat} {c : Con} (h : ConOk P f d c) : ConOk P f d { c with h' := [] } := by
  refine ⟨h.enters, fun r w h1 h2 h3 h4 => (h.calls r w h1 h2 h3 h4).mono ?_, h.ng, h.le, h.wf0, ⟨fun g k hk => (by cases hk), h.wf1.2⟩, h.args, h.res, fun g k hk => (by cases hk)⟩
  rintro e w' ⟨r', he, T, hb⟩
  exact ⟨r', he, ⟨T.ext, T.dom, T.le, T.good0, ⟨fun g k hk => (by cases hk), fun g g' k k' hk => (by cases hk), fun g k hk => (by cases hk), T.good.lo⟩, T.os, T.tape, T.output, T.size, T.frame, fun g k hk => (by cases hk)⟩, hb⟩
/-- A contract that writes nothing that stood there. -/
def Con.useR (q : Prop) (d : Nat) (c : Con) (ρ : List Nat) (args : List Value) (s : St) : Res :=
  bif (c.h'.all fun x => Nat.blt (lift c.n s.n ρ x.1) (s.n + (c.n' - c.n))) && (c.lo'.all fun x => Nat.blt (lift c.n s.n ρ x.1) (s.n + (c.n' - c.n))) then
    some (rnV (lift c.n s.n ρ) d c.res,
      { n := s.n + (c.n' - c.n),
        h := rnH (lift c.n s.n ρ) d c.h' ++ s.h,
        lo := (c.lo'.map fun y => (lift c.n s.n ρ y.1, y.2)) ++ s.lo,
        esc := s.esc, T := s.T, k := s.k,
        O := s.O ∧ q ∧ sameA (lift c.n s.n ρ) d args c.args ∧ (SeenH d (fun l => Nat.blt l c.n) (lift c.n s.n ρ) s.h c.h ∧ injB (lift c.n s.n ρ) c.h = true ∧ c.h.all (fun y => !y.2.rw) = true) ∧ SeenO (fun l => Nat.blt l c.n) (lift c.n s.n ρ) s.lo c.lo })
  else none
theorem Con.useR_ok {P : Program} {f : FuncId} {d : Nat} {c : Con} {q : Prop} (hc : q → ConOk P f d c) {ρ : List Nat} {args : List Value} {s s' : St} {v : Value} (h : c.useR q d ρ args s = some (v, s')) :
    Mono s s' ∧ (s'.O → Enters P f ∧ CallOk P f args s v s') := by
  unfold Con.useR at h
  obtain ⟨hb, h⟩ := bif_some h
  simp only [Option.some.injEq, Prod.mk.injEq] at h
  obtain ⟨rfl, rfl⟩ := h
  simp only [Bool.and_eq_true] at hb
  obtain ⟨hb1, hb2⟩ := hb
  refine ⟨⟨Nat.le_add_right _ _, fun h => h.1, fun hw => ⟨fun g k hk => ?_, fun x hx => ?_⟩⟩, ?_⟩
  · simp only [] at hk ⊢
    rw [look_append] at hk
    cases he : look (rnH (lift c.n s.n ρ) d c.h') g with
    | none => rw [he] at hk; have := hw.1 g k (by simpa using hk); omega
    | some k1 =>
      obtain ⟨g0, k0, q1, rfl, _⟩ := look_rnH he
      simpa using List.all_eq_true.1 hb1 _ (look_mem q1)
  · simp only [List.mem_append] at hx ⊢
    rcases hx with hx | hx
    · obtain ⟨y, hy, rfl⟩ := List.mem_map.1 hx
      simpa using List.all_eq_true.1 hb2 y hy
    · have := hw.2 x hx; omega
  · rintro ⟨_, q0, q1, ⟨q2, hb3, hro⟩, q3⟩
    have hc := hc q0
    refine ⟨hc.enters, fun r w hwf hg hfr hbd => ?_⟩
    have hσ := lift_ng (n := c.n) (N := s.n) (ρ := ρ)
    have hS : SeenS d (fun l => Nat.blt l c.n) (lift c.n s.n ρ) s c.s0 :=
      ⟨fun g k hk => q2.mem _ (look_mem hk), fun g g' k k' e1 e2 e => injB_spec hb3 _ (look_mem e1) _ (look_mem e2) e, fun x hx => q3.mem x hx⟩
    have ha := sameA_eq q1
    have hargs : args.map r.val = c.args.map (r.by (lift c.n s.n ρ) (fun l => Nat.blt l c.n)).val := by
      rw [ha, List.map_map]
      apply List.map_congr_left
      intro v hv
      exact rn_val hσ d v (hc.args v hv)
    rw [hargs]
    have hfr0 : Fresh (r.by (lift c.n s.n ρ) (fun l => Nat.blt l c.n)) c.n c.n' := fun l hl _ => by
      have h1 : Nat.blt l NG = false := blt_no (Nat.le_trans hc.ng hl)
      have h2 : Nat.blt l c.n = false := blt_no hl
      show (Nat.blt l NG || (Nat.blt l c.n && r.d (lift c.n s.n ρ l))) = false
      rw [h1, h2]; rfl
    refine (hc.calls (r.by (lift c.n s.n ρ) (fun l => Nat.blt l c.n)) w hc.wf0 (hS.good hσ hg) hfr0 fun u hu => rn_bnd d u (hc.args u hu) (hbd _ (by rw [ha]; exact List.mem_map_of_mem hu))).mono ?_
    rintro e w' ⟨r3, rfl, T, hb⟩
    obtain ⟨T', hv⟩ := To.lift (d := d) (ρ := ρ) (n := c.n) (n' := c.n') (h0 := c.h) (h1 := c.h') (lo0 := c.lo) (lo1 := c.lo') hg hfr hc.ng hc.le hS T hc.ok
      { n := s.n + (c.n' - c.n), h := rnH (lift c.n s.n ρ) d c.h' ++ s.h, lo := (c.lo'.map fun y => (lift c.n s.n ρ y.1, y.2)) ++ s.lo, esc := s.esc, T := s.T, k := s.k, O := s.O ∧ q ∧ sameA (lift c.n s.n ρ) d args c.args ∧ (SeenH d (fun l => Nat.blt l c.n) (lift c.n s.n ρ) s.h c.h ∧ injB (lift c.n s.n ρ) c.h = true ∧ c.h.all (fun y => !y.2.rw) = true) ∧ SeenO (fun l => Nat.blt l c.n) (lift c.n s.n ρ) s.lo c.lo }
      rfl (fun g k hk => by
        simp only [] at hk
        rw [look_append] at hk
        cases he : look (rnH (lift c.n s.n ρ) d c.h') g with
        | some k1 => rw [he] at hk; exact .inl (by simpa using hk)
        | none =>
          rw [he] at hk
          refine .inr ⟨by simpa using hk, fun g0 k0 hk0 hrw _ => ?_⟩
          have := List.all_eq_true.1 hro _ (look_mem hk0)
          simp [hrw] at this) (fun x hx => by
        simp only [List.mem_append] at hx
        rcases hx with hx | hx
        · obtain ⟨y, hy, rfl⟩ := List.mem_map.1 hx
          exact .inr ⟨y, hy, rfl⟩
        · exact .inl hx)
    obtain ⟨v1, v2⟩ := hv c.res hc.res hb
    exact ⟨_, by rw [v1], T', v2⟩
/-- such contracts, tried ahead of another base -/
def baseR (d : Nat) (sel : SelC) (b : CallK) : CallK := fun f args s => match sel f args s with
  | some x => x.1.useR x.2.2 d x.2.1 args s
  | none => b f args s
theorem baseR_ok {P : Program} {d : Nat} {sel : SelC} {b : CallK} (h : SelOk P d sel) (hb : SoundCall P b) : SoundCall P (baseR d sel b) := by
  intro f args s v s' hc
  unfold baseR at hc
  split at hc
  · rename_i x hx
    obtain ⟨c, ρ, q⟩ := x
    exact Con.useR_ok (h f args s c ρ q hx) hc
  · exact hb f args s v s' hc
theorem blt_yes {l n : Nat} (h : l < n) : Nat.blt l n = true := (Nat.blt_eq).mpr h
/-- A run that answers yes, from a heap of which nothing may be written. -/
theorem yes_ok {P : Program} {call : CallK} (hcall : SoundCall P call) {f : FuncId} {args : List Value} {s : St} {q : Prop} (h : obs (call f args s) = some (.bool true, q)) (hO : q) (hwf : WFn s) (hro : s.h.all (fun y => !y.2.rw) = true)
    {r : Ren} {w : World} (hg : Good r s w) (hfr : ∀ l, s.n ≤ l → r.d l = false) (hb : ∀ u ∈ args, bnd r.d u = true) :
    Calls P f (args.map r.val).toArray w fun e w' => e = .returned (.bool true) ∧ Below w.heap.size w w' := by
  unfold obs at h
  obtain ⟨⟨v', s'⟩, h1, h2⟩ := Option.map_eq_some_iff.1 h
  cases h2
  obtain ⟨_, h2⟩ := hcall f args s _ s' h1
  obtain ⟨_, h4⟩ := h2 hO
  refine (h4 r w hwf hg (fun l hl _ => hfr l hl) hb).mono ?_
  rintro e w' ⟨r', rfl, T, _⟩
  exact ⟨by rw [val_bool], T.below fun g k hk => by
    have := List.all_eq_true.1 hro _ (look_mem hk)
    simpa using this⟩
/-! A heap of which the tail is not looked into. -/
theorem rnV_on {p : Nat → Bool} {σ : Nat → Nat} (hσ : ∀ l, p l = true → σ l = l) : ∀ (d : Nat) (v : Value), okV p d v = true → rnV σ d v = v := by
  have hA : ∀ a, bndA p a = true → rnA σ a = a := by
    intro a h
    unfold bndA at h
    simp only [Bool.and_eq_true] at h
    obtain ⟨b, o, s⟩ := a
    unfold rnA
    cases s with
    | none => simp only [hσ _ h.1, Option.map_none]
    | some k => simp only [hσ _ h.1, Option.map_some, hσ k h.2]
  have hC : ∀ c, (Nat.blt c big || p (c - big)) = true → rnC σ c = c := by
    intro c h
    unfold rnC
    cases hb : Nat.blt c big
    · rw [hb, Bool.false_or] at h
      have : ¬ c < big := fun hc => by rw [(Nat.blt_eq).mpr hc] at hb; cases hb
      rw [cond_false, hσ _ h]
      exact Nat.add_sub_of_le (Nat.le_of_not_lt this)
    · rw [cond_true]
  have hP : ∀ a : Option Addr, (match a with | some a => bndA p a | none => true) = true → a.map (rnA σ) = a := fun a h => by
    cases a with
    | none => rfl
    | some a => simp only [Option.map_some, hA a h]
  have hF : ∀ (l : List Value), l.all flat0 = true → ∀ d, l.map (rnV σ d) = l := fun l h d => flat_map (List.all_eq_true.1 h)
  intro d
  induction d with
  | zero =>
    intro v h
    cases v with
    | pointer a => cases a with
      | none => rfl
      | some a => simp only [rnV, Option.map_some, hA a h]
    | slice a l c =>
      simp only [okV, Bool.and_eq_true] at h
      simp only [rnV, hP a h.1, hC c h.2]
    | _ => rfl
  | succ d ih =>
    have hl : ∀ cs : Array Value, cs.toList.all (okV p d) = true → (⟨cs.toList.map (rnV σ d)⟩ : Array Value) = cs := fun cs h => by
      apply Array.ext'
      simp only []
      rw [List.map_congr_left (g := id) fun v hv => ih v (List.all_eq_true.1 h v hv)]
      simp
    intro v h
    cases v with
    | pointer a => cases a with
      | none => rfl
      | some a => simp only [rnV, Option.map_some, hA a h]
    | slice a l c =>
      simp only [okV, Bool.and_eq_true] at h
      simp only [rnV, hP a h.1, hC c h.2]
    | func fn fs cs =>
      simp only [okV, Bool.and_eq_true] at h
      simp only [rnV, hl fs h.1.2, hl cs h.2]
    | iface t v => simp only [rnV, ih v h]
    | agg cs => simp only [rnV, hl cs h]
    | tuple cs => simp only [rnV, hl cs h]
    | _ => rfl
def dropN : Nat → Heap → Heap
  | 0, h => h
  | _ + 1, [] => []
  | n + 1, _ :: h => dropN n h
def headsGe : Nat → Nat → Heap → Bool
  | 0, _, _ => true
  | _ + 1, _, [] => false
  | m + 1, b, x :: h => Nat.ble b x.1 && headsGe m b h
def isIds : Nat → List Nat → Bool
  | _, [] => true
  | k, x :: l => Nat.beq x k && isIds (k + 1) l
theorem look_dropN {g b : Nat} (hg : g < b) : ∀ (m : Nat) (h : Heap), headsGe m b h = true → look (dropN m h) g = look h g
  | 0, h, _ => rfl
  | _ + 1, [], h => by cases h
  | m + 1, x :: l, h => by
    simp only [headsGe, Bool.and_eq_true] at h
    have := Nat.le_of_ble_eq_true h.1
    rw [look_cons, if_neg (by omega)]
    exact look_dropN hg m l h.2
theorem ids_at : ∀ (k : Nat) (l : List Nat) (i : Nat), isIds k l = true → i < l.length → getD' 0 l i = k + i
  | _, [], _, _, h => by simp at h
  | k, x :: l, 0, h, _ => by
    simp only [isIds, Bool.and_eq_true] at h
    exact Nat.eq_of_beq_eq_true h.1
  | k, x :: l, i + 1, h, hi => by
    simp only [isIds, Bool.and_eq_true] at h
    have := ids_at (k + 1) l i h.2 (by simpa using hi)
    show getD' 0 l i = k + (i + 1)
    omega
theorem lift_ids {n N : Nat} {ρ : List Nat} (h1 : isIds NG ρ = true) (h2 : ρ.length = n - NG) {l : Nat} (hl : l < n) : lift n N ρ l = l := by
  by_cases h : l < NG
  · exact lift_ng l h
  · unfold lift
    rw [blt_no (Nat.le_of_not_lt h), (Nat.blt_eq).mpr hl]
    simp only [cond_false, cond_true]
    rw [ids_at NG ρ (l - NG) h1 (by omega)]
    omega
/-- all that a contract asks of the heap is below its letters, and is not written -/
structure InId (d : Nat) (c : Con) : Prop where
  h : ∀ x ∈ c.h, x.1 < c.n ∧ (∀ q, x.2.op = some q → q.1 < c.n) ∧ x.2.rw = false ∧ ∀ v ∈ x.2.cells, okV (fun l => Nat.blt l c.n) d v = true
  flat : ∀ x ∈ c.h', ∀ v ∈ x.2.cells, flat0 v = true
/-- under other letters, of cells that bear none -/
def rnHf (σ : Nat → Nat) (h : Heap) : Heap := h.map fun x => (σ x.1, ⟨x.2.rw, x.2.op.map fun q => (σ q.1, q.2), x.2.cells, x.2.it⟩)
theorem rnHf_eq {σ : Nat → Nat} {d : Nat} {h : Heap} (hf : ∀ x ∈ h, ∀ v ∈ x.2.cells, flat0 v = true) : rnHf σ h = rnH σ d h := by
  unfold rnHf rnH
  apply List.map_congr_left
  intro x hx
  unfold rnB
  rw [flat_map (hf x hx)]
/-- A contract that is asked of a heap's tail, letter by letter. -/
def Con.useT (q : Prop) (m d : Nat) (c : Con) (ρ : List Nat) (args : List Value) (s : St) : Res :=
  bif (c.h'.all fun x => Nat.blt (lift c.n s.n ρ x.1) (s.n + (c.n' - c.n))) && (c.lo'.all fun x => Nat.blt (lift c.n s.n ρ x.1) (s.n + (c.n' - c.n))) && headsGe m c.n s.h && isIds NG ρ && Nat.beq (lenT ρ) (c.n - NG) then
    some (rnV (lift c.n s.n ρ) d c.res,
      { n := s.n + (c.n' - c.n),
        h := rnHf (lift c.n s.n ρ) c.h' ++ s.h,
        lo := (c.lo'.map fun y => (lift c.n s.n ρ y.1, y.2)) ++ s.lo,
        esc := s.esc, T := s.T, k := s.k,
        O := s.O ∧ q ∧ args = c.args ∧ dropN m s.h = c.h ∧ SeenO (fun l => Nat.blt l c.n) (lift c.n s.n ρ) s.lo c.lo })
  else none
theorem Con.useT_ok {P : Program} {f : FuncId} {m d : Nat} {c : Con} {q : Prop} (hc : q → ConOk P f d c ∧ InId d c) {ρ : List Nat} {args : List Value} {s s' : St} {v : Value} (h : c.useT q m d ρ args s = some (v, s')) :
    Mono s s' ∧ (s'.O → Enters P f ∧ CallOk P f args s v s') := by
  unfold Con.useT at h
  obtain ⟨hb, h⟩ := bif_some h
  simp only [Option.some.injEq, Prod.mk.injEq] at h
  obtain ⟨rfl, rfl⟩ := h
  simp only [Bool.and_eq_true] at hb
  obtain ⟨⟨⟨⟨hb1, hb2⟩, hb3⟩, hb4⟩, hb5⟩ := hb
  have hb5 := Nat.eq_of_beq_eq_true hb5
  rw [lenT_eq] at hb5
  refine ⟨⟨Nat.le_add_right _ _, fun h => h.1, fun hw => ⟨fun g k hk => ?_, fun x hx => ?_⟩⟩, ?_⟩
  · simp only [] at hk ⊢
    rw [look_append] at hk
    cases he : look (rnHf (lift c.n s.n ρ) c.h') g with
    | none => rw [he] at hk; have := hw.1 g k (by simpa using hk); omega
    | some k1 =>
      obtain ⟨x, hx, e⟩ := List.mem_map.1 (look_mem he)
      have := List.all_eq_true.1 hb1 _ hx
      simp only [Prod.mk.injEq] at e
      rw [← e.1]
      simpa using this
  · simp only [List.mem_append] at hx ⊢
    rcases hx with hx | hx
    · obtain ⟨y, hy, rfl⟩ := List.mem_map.1 hx
      simpa using List.all_eq_true.1 hb2 y hy
    · have := hw.2 x hx; omega
  · rintro ⟨_, q0, ha, q2, q3⟩
    obtain ⟨hc, hI⟩ := hc q0
    refine ⟨hc.enters, fun r w hwf hg hfr hbd => ?_⟩
    have hσ := lift_ng (n := c.n) (N := s.n) (ρ := ρ)
    have hid : ∀ l, l < c.n → lift c.n s.n ρ l = l := fun l hl => lift_ids hb4 hb5 hl
    have hidb : ∀ l, (fun l => Nat.blt l c.n) l = true → lift c.n s.n ρ l = l := fun l hl => hid l (by simpa using hl)
    have hS : SeenS d (fun l => Nat.blt l c.n) (lift c.n s.n ρ) s c.s0 := by
      refine ⟨fun g k hk => ?_, fun g g' k k' e1 e2 e => ?_, fun x hx => q3.mem x hx⟩
      · obtain ⟨i1, i2, i3, i4⟩ := hI.h _ (look_mem hk)
        refine ⟨blt_yes i1, i4, fun q hq => blt_yes (i2 q hq), k, ?_, id, .inl ?_, rfl, ?_⟩
        · rw [hid g i1, ← look_dropN i1 m s.h hb3, q2]; exact hk
        · cases ho : k.op with
          | none => rfl
          | some q => simp only [Option.map_some, hid q.1 (i2 q ho)]
        · rw [List.map_congr_left (g := id) fun v hv => rnV_on hidb d v (i4 v hv)]
          simp
      · rw [hid g (hI.h _ (look_mem e1)).1, hid g' (hI.h _ (look_mem e2)).1] at e
        exact e
    have hargs : args.map r.val = c.args.map (r.by (lift c.n s.n ρ) (fun l => Nat.blt l c.n)).val := by
      rw [ha]
      apply List.map_congr_left
      intro v hv
      have := rn_val (r1 := r) (p := fun l => Nat.blt l c.n) hσ d v (hc.args v hv)
      rw [rnV_on hidb d v (hc.args v hv)] at this
      exact this
    rw [hargs]
    have hfr0 : Fresh (r.by (lift c.n s.n ρ) (fun l => Nat.blt l c.n)) c.n c.n' := fun l hl _ => by
      have h1 : Nat.blt l NG = false := blt_no (Nat.le_trans hc.ng hl)
      have h2 : Nat.blt l c.n = false := blt_no hl
      show (Nat.blt l NG || (Nat.blt l c.n && r.d (lift c.n s.n ρ l))) = false
      rw [h1, h2]; rfl
    refine (hc.calls (r.by (lift c.n s.n ρ) (fun l => Nat.blt l c.n)) w hc.wf0 (hS.good hσ hg) hfr0 fun u hu => rn_bnd d u (hc.args u hu) (by rw [rnV_on hidb d u (hc.args u hu)]; exact hbd _ (by rw [ha]; exact hu))).mono ?_
    rintro e w' ⟨r3, rfl, T, hb⟩
    obtain ⟨T', hv⟩ := To.lift (d := d) (ρ := ρ) (n := c.n) (n' := c.n') (h0 := c.h) (h1 := c.h') (lo0 := c.lo) (lo1 := c.lo') hg hfr hc.ng hc.le hS T hc.ok
      { n := s.n + (c.n' - c.n), h := rnHf (lift c.n s.n ρ) c.h' ++ s.h, lo := (c.lo'.map fun y => (lift c.n s.n ρ y.1, y.2)) ++ s.lo, esc := s.esc, T := s.T, k := s.k, O := s.O ∧ q ∧ args = c.args ∧ dropN m s.h = c.h ∧ SeenO (fun l => Nat.blt l c.n) (lift c.n s.n ρ) s.lo c.lo }
      rfl (fun g k hk => by
        simp only [] at hk
        rw [look_append, rnHf_eq (d := d) hI.flat] at hk
        cases he : look (rnH (lift c.n s.n ρ) d c.h') g with
        | some k1 => rw [he] at hk; exact .inl (by simpa using hk)
        | none =>
          rw [he] at hk
          refine .inr ⟨by simpa using hk, fun g0 k0 hk0 hrw _ => ?_⟩
          have := (hI.h _ (look_mem hk0)).2.2.1
          simp only [] at this
          rw [this] at hrw; cases hrw) (fun x hx => by
        simp only [List.mem_append] at hx
        rcases hx with hx | hx
        · obtain ⟨y, hy, rfl⟩ := List.mem_map.1 hx
          exact .inr ⟨y, hy, rfl⟩
        · exact .inl hx)
    obtain ⟨v1, v2⟩ := hv c.res hc.res hb
    exact ⟨_, by rw [v1], T', v2⟩
/-- such contracts, tried ahead of another base -/
abbrev SelT := FuncId → List Value → St → Option (Con × List Nat × Nat × Prop)
def SelTOk (P : Program) (d : Nat) (sel : SelT) : Prop := ∀ f args s c ρ m q, sel f args s = some (c, ρ, m, q) → q → ConOk P f d c ∧ InId d c
def baseT (d : Nat) (sel : SelT) (b : CallK) : CallK := fun f args s => match sel f args s with
  | some x => x.1.useT x.2.2.2 x.2.2.1 d x.2.1 args s
  | none => b f args s
theorem baseT_ok {P : Program} {d : Nat} {sel : SelT} {b : CallK} (h : SelTOk P d sel) (hb : SoundCall P b) : SoundCall P (baseT d sel b) := by
  intro f args s v s' hc
  unfold baseT at hc
  split at hc
  · rename_i x hx
    obtain ⟨c, ρ, m, q⟩ := x
    exact Con.useT_ok (h f args s c ρ m q hx) hc
  · exact hb f args s v s' hc
/-- A closed run that answers yes: one word for it. -/
def RunY (P : Program) (L k : Nat) (f : FuncId) : Prop := SaysTrue (evF P noBase noLoop L k f [] st0)
theorem runY_con {P : Program} {L k : Nat} {f : FuncId} (hn : namesOk P = true) (hb : hasBody P f = true) (h : RunY P L k f = True) : ConOk P f 3 (Con.pure [] (.bool true)) :=
  conOk_pure (d := 1) (enters_b hn hb) (fun u hu => by cases hu) rfl fun w => true_ok (run_ok (L := L) hn (noBase_ok _) (noLoop_ok _) k) (of_eq_true h) (fun u hu => by cases hu) w
end Go.Proofs.Ytdljpnebpoaeiaa.Sy
