/-
  The abstract machine: letters are only added.
-/
import Derived.Test.YtnnagaioiodniaaEngK
namespace Go.Proofs.Ytnnagaioiodniaa.Eng
open Go.RowKit

theorem bif_some {α : Type} {c : Bool} {x : Option α} {y : α} (h : (bif c then x else none) = some y) : c = true ∧ x = some y := by
  cases c
  · cases h
  · exact ⟨rfl, h⟩
section
variable {P : Program} {s s' s1 : St} {e : Env}
theorem bif_else {α : Type} {c : Bool} {x : Option α} {y : α} (h : (bif c then none else x) = some y) : x = some y := by
  cases c
  · exact h
  · cases h
theorem Mono.refl (s : St) : Mono s s := ⟨Nat.le_refl _, id, id⟩
theorem Mono.trans (h : Mono s s1) (h' : Mono s1 s') : Mono s s' := ⟨Nat.le_trans h.1 h'.1, fun x => h.2.1 (h'.2.1 x), fun x => h'.2.2 (h.2.2 x)⟩
theorem Mono.test (t : Bool) (s : St) : Mono s (test t s).2 := ⟨by rw [test_n]; exact Nat.le_refl _, test_ob t s, fun h => ⟨by rw [test_h, test_n]; exact h.1, by rw [test_lo, test_n]; exact h.2⟩⟩
theorem Mono.ask (t : Bool) (s : St) : Mono s (Eng.ask t s).2 := ⟨Nat.le_refl _, ask_ob t s, id⟩
theorem WFn.new (h : WFn s1) (op : Option (Nat × Nat)) (l : List Value) (lo : List (Nat × Nat)) (esc : Nat) (hlo : ∀ x ∈ lo, x.1 < s1.n + 1) : WFn { newBlk s1 op l with lo := lo, esc := esc } := by
  refine ⟨fun g k hk => ?_, hlo⟩
  have hk : look ((s1.n, (⟨true, op, l⟩ : Blk)) :: s1.h) g = some k := hk
  rw [look_cons] at hk
  split at hk
  · rename_i e; subst e; exact Nat.lt_succ_self _
  · exact Nat.lt_succ_of_lt (h.1 g k hk)
theorem Mono.new (h : Mono s s1) (op : Option (Nat × Nat)) (l : List Value) : Mono s (newBlk s1 op l) :=
  ⟨Nat.le_succ_of_le h.1, h.2.1, fun hw => (h.2.2 hw).new op l s1.lo s1.esc fun x hx => Nat.lt_succ_of_lt ((h.2.2 hw).2 x hx)⟩
theorem Mono.new1 (h : Mono s s1) (op : Option (Nat × Nat)) (l : List Value) (m esc : Nat) : Mono s { newBlk s1 op l with lo := (s1.n, m) :: s1.lo, esc := esc } :=
  ⟨Nat.le_succ_of_le h.1, h.2.1, fun hw => (h.2.2 hw).new op l _ _ fun x hx => by
    rcases List.mem_cons.1 hx with rfl | hx
    · exact Nat.lt_succ_self _
    · exact Nat.lt_succ_of_lt ((h.2.2 hw).2 x hx)⟩
theorem Mono.letter (h : Mono s s1) (m : Nat) : Mono s { s1 with n := s1.n + 1, lo := (s1.n, m) :: s1.lo } :=
  ⟨Nat.le_succ_of_le h.1, h.2.1, fun hw => ⟨fun g k hk => Nat.lt_succ_of_lt ((h.2.2 hw).1 g k hk), fun x hx => by
    rcases List.mem_cons.1 hx with rfl | hx
    · exact Nat.lt_succ_self _
    · exact Nat.lt_succ_of_lt ((h.2.2 hw).2 x hx)⟩⟩
theorem Mono.kill (h : Mono s s1) (g : Nat) : Mono s { s1 with h := Eng.kill s1.h g } :=
  ⟨h.1, h.2.1, fun hw => ⟨fun g' k hk => by
    have hk : look (Eng.kill s1.h g) g' = some k := hk
    rw [look_kill] at hk
    split at hk
    · cases hk
    · exact (h.2.2 hw).1 g' k hk, (h.2.2 hw).2⟩⟩
theorem mono_bound1 {d top n : Nat} {o : Option Value} (h : bound1 s d top o = some (n, s')) : Mono s s' := by
  unfold bound1 at h
  split at h
  · simp only [Option.some.injEq, Prod.mk.injEq] at h; rw [← h.2]; exact .refl _
  · rename_i k i
    cases hb : (Eng.ask (upLen i top) s).1
    · rw [hb] at h; cases h
    · rw [hb] at h
      simp only [cond_true, Option.some.injEq, Prod.mk.injEq] at h
      rw [← h.2]; exact .ask _ _
  · cases h
theorem mono_wr {a : Addr} {vs : List Value} (h : wrCells s a vs = some s') : Mono s s' := by
  unfold wrCells at h
  simp only [lenT_eq] at h
  split at h
  · cases h
  replace h := Option.bind_eq_some_iff.1 h
  obtain ⟨k, _, h⟩ := h
  cases hc : (k.rw && hasN (a.off + vs.length) k.cells && oneC vs)
  · rw [hc] at h; cases h
  rw [hc] at h
  simp only [cond_true, Option.some.injEq] at h
  subst h
  refine ⟨Nat.le_refl _, id, fun hw => ⟨fun g k' hk' => ?_, hw.2⟩⟩
  simp only [] at hk'
  rw [look_upd] at hk'
  split at hk'
  · rename_i e; obtain ⟨k0, h0, _⟩ := Option.map_eq_some_iff.1 hk'; subst e; exact hw.1 _ k0 h0
  · exact hw.1 g k' hk'
theorem mono_store {t : TypeId} {a : Addr} {v : Value} (h : xstoreVar P s t a v = some s') : Mono s s' := by
  unfold xstoreVar at h
  replace h := Option.bind_eq_some_iff.1 h
  obtain ⟨n, _, h⟩ := h
  cases hc : Nat.beq v.cells.size n
  · rw [hc] at h; cases h
  rw [hc] at h
  exact mono_wr h
theorem mono_pure {o : Oper} {v : Value} (h : xpure P e s o = some (v, s')) : Mono s s' := by
  unfold xpure at h
  generalize (o.op.operands.toList.all fun x => match opd e x with | some v => flat1 v | none => false) = c at h
  cases c
  · cases h
  simp only [cond_true] at h
  replace h := Option.bind_eq_some_iff.1 h
  obtain ⟨x, _, h⟩ := h
  split at h
  · obtain ⟨_, h⟩ := bif_some h
    simp only [Option.some.injEq, Prod.mk.injEq] at h
    rw [← h.2]; exact .refl _
  · cases h
theorem mono_sliceS {a : Option Addr} {len cap size : Nat} {lo hi mx : Option Value} {v : Value} (h : xsliceS s a len cap size lo hi mx = some (v, s')) : Mono s s' := by
  unfold xsliceS at h
  split at h
  · replace h := Option.bind_eq_some_iff.1 h
    obtain ⟨⟨m, s1⟩, e1, h⟩ := h
    simp only [] at h
    replace h := Option.bind_eq_some_iff.1 h
    obtain ⟨⟨hh, s2⟩, e2, h⟩ := h
    simp only [] at h
    replace h := Option.bind_eq_some_iff.1 h
    obtain ⟨⟨l, s3⟩, e3, h⟩ := h
    simp only [] at h
    have hm : Mono s s3 := by
      cases hi with
      | none => cases e2
      | some hi0 => exact ((mono_bound1 e1).trans (mono_bound1 e2)).trans (mono_bound1 e3)
    cases a with
    | none =>
      simp only [] at h
      cases hb : Nat.blt m big
      · rw [hb] at h; cases h
      · rw [hb] at h; simp only [cond_true, Option.some.injEq, Prod.mk.injEq] at h; rw [← h.2]; exact hm
    | some a' =>
      simp only [] at h
      split at h
      · cases h
      cases hb : Nat.blt m big
      · rw [hb] at h; cases h
      · rw [hb] at h; simp only [cond_true, Option.some.injEq, Prod.mk.injEq] at h; rw [← h.2]; exact hm
  · replace h := Option.bind_eq_some_iff.1 h
    obtain ⟨⟨hh, s1⟩, e1, h⟩ := h
    simp only [] at h
    replace h := Option.bind_eq_some_iff.1 h
    obtain ⟨⟨l, s2⟩, e2, h⟩ := h
    simp only [] at h
    have hm : Mono s s2 := (mono_bound1 e1).trans (mono_bound1 e2)
    cases a with
    | none =>
      simp only [] at h
      cases hb : Nat.blt cap big
      · rw [hb] at h; cases h
      · rw [hb] at h; simp only [cond_true, Option.some.injEq, Prod.mk.injEq] at h; rw [← h.2]; exact hm
    | some a =>
      simp only [] at h
      cases hl0 : Nat.beq l 0
      · rw [hl0] at h
        simp only [cond_false] at h
        split at h
        · cases h
        cases hb : Nat.blt cap big
        · rw [hb] at h
          simp only [cond_false] at h
          cases hlt : Nat.blt l (capLo s2 cap)
          · rw [hlt] at h; simp only [cond_false, Option.some.injEq, Prod.mk.injEq] at h; rw [← h.2]; exact hm.letter _
          · rw [hlt] at h; simp only [cond_true, Option.some.injEq, Prod.mk.injEq] at h; rw [← h.2]; exact hm.letter _
        · rw [hb] at h; simp only [cond_true, Option.some.injEq, Prod.mk.injEq] at h; rw [← h.2]; exact hm
      · rw [hl0] at h; simp only [cond_true, Option.some.injEq, Prod.mk.injEq] at h; rw [← h.2]; exact hm
theorem mono_sliceA {a : Addr} {n size : Nat} {lo hi mx : Option Value} {v : Value} (h : xsliceA s a n size lo hi mx = some (v, s')) : Mono s s' := by
  unfold xsliceA at h
  split at h
  · cases h
  exact mono_sliceS (bif_some h).2
theorem mono_slice {t : TypeId} {x v : Value} {lo hi mx : Option Value} (h : xslice P s t x lo hi mx = some (v, s')) : Mono s s' := by
  unfold xslice at h
  replace h := Option.bind_eq_some_iff.1 h
  obtain ⟨d, _, h⟩ := h
  split at h
  · replace h := Option.bind_eq_some_iff.1 h
    obtain ⟨n, _, h⟩ := h
    exact mono_sliceA h
  · split at h
    · unfold xsliceStr at h
      replace h := Option.bind_eq_some_iff.1 h
      obtain ⟨⟨hh, s1⟩, e1, h⟩ := h
      simp only [] at h
      replace h := Option.bind_eq_some_iff.1 h
      obtain ⟨⟨l, s2⟩, e2, h⟩ := h
      simp only [Option.some.injEq, Prod.mk.injEq] at h
      rw [← h.2]; exact (mono_bound1 e1).trans (mono_bound1 e2)
    · cases h
  · replace h := Option.bind_eq_some_iff.1 h
    obtain ⟨n, _, h⟩ := h
    exact mono_sliceS h
  · replace h := Option.bind_eq_some_iff.1 h
    obtain ⟨d, _, h⟩ := h
    split at h
    · replace h := Option.bind_eq_some_iff.1 h
      obtain ⟨n, _, h⟩ := h
      exact mono_sliceA h
    · cases h
  · cases h
theorem mono_append {t : TypeId} {t1 : Option TypeId} {sl x v : Value} (h : xappend P s t t1 sl x = some (v, s')) : Mono s s' := by
  unfold xappend at h
  split at h
  · rename_i base len cap
    iterate 5 (replace h := Option.bind_eq_some_iff.1 h; obtain ⟨_, _, h⟩ := h)
    replace h := Option.bind_eq_some_iff.1 h
    obtain ⟨n, _, h⟩ := h
    replace h := Option.bind_eq_some_iff.1 h
    obtain ⟨_, _, h⟩ := h
    obtain ⟨_, h⟩ := bif_some h
    cases hb : Nat.blt cap big
    · rw [hb] at h
      simp only [cond_false] at h
      cases base with
      | none => cases h
      | some a =>
        simp only [] at h
        split at h
        · cases h
        replace h := Option.bind_eq_some_iff.1 h
        obtain ⟨k, _, h⟩ := h
        split at h
        · cases h
        obtain ⟨_, h⟩ := bif_some h
        simp only [Option.some.injEq, Prod.mk.injEq] at h
        rw [← h.2]; exact ((Mono.refl _).kill _).new1 _ _ _ _
    · rw [hb] at h
      simp only [cond_true] at h
      cases hle : Nat.ble (len + n) cap
      · rw [hle] at h
        simp only [cond_false] at h
        replace h := Option.bind_eq_some_iff.1 h
        obtain ⟨old, _, h⟩ := h
        obtain ⟨_, h⟩ := bif_some h
        simp only [Option.some.injEq, Prod.mk.injEq] at h
        rw [← h.2]; exact (Mono.refl _).new1 _ _ _ _
      · rw [hle] at h
        simp only [cond_true] at h
        cases base with
        | none =>
          simp only [] at h
          obtain ⟨_, h⟩ := bif_some h
          simp only [Option.some.injEq, Prod.mk.injEq] at h
          rw [← h.2]; exact .refl _
        | some a =>
          simp only [] at h
          cases hn : Nat.beq n 0
          · rw [hn] at h
            simp only [cond_false] at h
            split at h
            · cases h
            obtain ⟨s1, hs1, h⟩ := Option.map_eq_some_iff.1 h
            simp only [Prod.mk.injEq] at h
            rw [← h.2]; exact mono_wr hs1
          · rw [hn] at h
            simp only [cond_true, Option.some.injEq, Prod.mk.injEq] at h
            rw [← h.2]; exact .refl _
  · cases h
theorem mono_copy {t : TypeId} {dst src v : Value} (h : xcopy P s t dst src = some (v, s')) : Mono s s' := by
  unfold xcopy at h
  simp only [lenT_eq] at h
  split at h
  · rename_i base dlen dcap
    iterate 4 (replace h := Option.bind_eq_some_iff.1 h; obtain ⟨_, _, h⟩ := h)
    rename_i cells _
    obtain ⟨_, h⟩ := bif_some h
    cases hb : Nat.beq cells.length 0
    · rw [hb] at h
      simp only [cond_false] at h
      cases base with
      | none => cases h
      | some a =>
        obtain ⟨s1, hs1, h⟩ := Option.map_eq_some_iff.1 h
        simp only [Prod.mk.injEq] at h
        rw [← h.2]; exact mono_wr hs1
    · rw [hb] at h
      simp only [cond_true, Option.some.injEq, Prod.mk.injEq] at h
      rw [← h.2]; exact .refl _
  · cases h
theorem mono_some {v v' : Value} {s0 : St} (hs : Mono s s0) (h : some (v', s0) = some (v, s')) : Mono s s' := by
  simp only [Option.some.injEq, Prod.mk.injEq] at h
  rw [← h.2]; exact hs
theorem mono_map {α : Type} {x : Option α} {f : α → Value} {v : Value} {s0 : St} (hs : Mono s s0) (h : x.map (fun y => (f y, s0)) = some (v, s')) : Mono s s' := by
  obtain ⟨y, _, h⟩ := Option.map_eq_some_iff.1 h
  simp only [Prod.mk.injEq] at h
  rw [← h.2]; exact hs
theorem mono_call {call : CallK} (hcall : ∀ f args s v s', call f args s = some (v, s') → Mono s s') {o : Oper} {c : Call} {v : Value} (h : xcall P call e s o c = some (v, s')) : Mono s s' := by
  unfold xcall at h
  split at h
  · split at h
    · iterate 2 (replace h := Option.bind_eq_some_iff.1 h; obtain ⟨_, _, h⟩ := h)
      exact mono_append h
    · cases h
  · split at h
    · iterate 2 (replace h := Option.bind_eq_some_iff.1 h; obtain ⟨_, _, h⟩ := h)
      exact mono_copy h
    · cases h
  · split at h
    · replace h := Option.bind_eq_some_iff.1 h
      obtain ⟨_, _, h⟩ := h
      unfold xlenOp at h
      split at h
      · exact mono_map (.refl _) h
      · replace h := Option.bind_eq_some_iff.1 h
        obtain ⟨_, _, h⟩ := h
        split at h
        · exact mono_some (.refl _) h
        · cases h
      · exact mono_pure h
    · cases h
  · exact mono_pure h
  · exact mono_pure h
  · replace h := Option.bind_eq_some_iff.1 h
    obtain ⟨_, _, h⟩ := h
    split at h
    · replace h := Option.bind_eq_some_iff.1 h
      obtain ⟨_, _, h⟩ := h
      exact hcall _ _ _ _ _ h
    · cases h
  · cases h
theorem mono_op {call : CallK} (hcall : ∀ f args s v s', call f args s = some (v, s') → Mono s s') {o : Oper} {v : Value} (h : xop P call e s o = some (v, s')) : Mono s s' := by
  unfold xop at h
  split at h
  · exact mono_map (.refl _) h
  · exact mono_map (.refl _) h
  · replace h := Option.bind_eq_some_iff.1 h
    obtain ⟨c, _, h⟩ := h
    split at h
    · exact mono_map (.test _ _) h
    · cases h
  · obtain ⟨z, _, h⟩ := Option.map_eq_some_iff.1 h
    simp only [Prod.mk.injEq] at h
    rw [← h.2]; exact (Mono.refl _).new _ _
  · replace h := Option.bind_eq_some_iff.1 h
    obtain ⟨_, _, h⟩ := h
    obtain ⟨_, h⟩ := bif_some h
    exact mono_some ((Mono.refl _).new _ _) h
  · replace h := Option.bind_eq_some_iff.1 h
    obtain ⟨_, _, h⟩ := h
    exact mono_map (.refl _) h
  · replace h := Option.bind_eq_some_iff.1 h
    obtain ⟨_, _, h⟩ := h
    unfold xbuildSlice at h
    iterate 3 (replace h := Option.bind_eq_some_iff.1 h; obtain ⟨_, _, h⟩ := h)
    obtain ⟨_, h⟩ := bif_some h
    obtain ⟨z, _, h⟩ := Option.map_eq_some_iff.1 h
    simp only [Prod.mk.injEq] at h
    rw [← h.2]; exact (Mono.refl _).new _ _
  · replace h := Option.bind_eq_some_iff.1 h
    obtain ⟨_, _, h⟩ := h
    split at h
    · exact mono_map (.refl _) h
    · cases h
  · iterate 2 (replace h := Option.bind_eq_some_iff.1 h; obtain ⟨_, _, h⟩ := h)
    split at h
    · obtain ⟨s1, hs1, h⟩ := Option.map_eq_some_iff.1 h
      simp only [Prod.mk.injEq] at h
      rw [← h.2]; exact mono_store hs1
    · cases h
  · replace h := Option.bind_eq_some_iff.1 h
    obtain ⟨_, _, h⟩ := h
    exact mono_map (.refl _) h
  · iterate 2 (replace h := Option.bind_eq_some_iff.1 h; obtain ⟨_, _, h⟩ := h)
    unfold xbin at h
    split at h
    · exact mono_map (.refl _) h
    · unfold xint at h
      split at h
      · exact mono_some (.ask _ _) (bif_some h).2
      · exact mono_some (.ask _ _) (bif_some h).2
      · exact mono_some (.ask _ _) h
      · exact mono_some (.ask _ _) h
      · exact mono_pure h
    · exact mono_pure h
    · unfold xagg at h
      replace h := bif_else h
      split at h
      · exact mono_map (.refl _) h
      · exact mono_map (.refl _) h
      · cases h
    · split at h
      · exact mono_map (.refl _) h
      · exact mono_map (.refl _) h
      · cases h
  · exact mono_pure h
  · replace h := Option.bind_eq_some_iff.1 h
    obtain ⟨_, _, h⟩ := h
    unfold xconvert at h
    split at h
    · iterate 2 (replace h := Option.bind_eq_some_iff.1 h; obtain ⟨_, _, h⟩ := h)
      split at h
      · replace h := Option.bind_eq_some_iff.1 h
        obtain ⟨_, _, h⟩ := h
        split at h
        · unfold xtoBytes at h
          simp only [Option.some.injEq, Prod.mk.injEq] at h
          rw [← h.2]; exact (Mono.refl _).new1 _ _ _ _
        · cases h
      · exact mono_some (.refl _) h
      · cases h
    · iterate 2 (replace h := Option.bind_eq_some_iff.1 h; obtain ⟨_, _, h⟩ := h)
      split at h
      · replace h := Option.bind_eq_some_iff.1 h
        obtain ⟨_, _, h⟩ := h
        split at h
        · unfold xtoString at h
          split at h
          · exact mono_some (.refl _) h
          · rename_i len _ _
            cases hb : Nat.beq len 0
            · rw [hb] at h
              simp only [cond_false] at h
              replace h := Option.bind_eq_some_iff.1 h
              obtain ⟨_, _, h⟩ := h
              exact mono_map (.refl _) h
            · rw [hb] at h
              exact mono_some (.refl _) h
          · cases h
        · cases h
      · cases h
    · exact mono_pure h
    · cases h
  · split at h
    · replace h := Option.bind_eq_some_iff.1 h
      obtain ⟨_, _, h⟩ := h
      exact mono_map (.refl _) h
    · cases h
  · iterate 2 (replace h := Option.bind_eq_some_iff.1 h; obtain ⟨_, _, h⟩ := h)
    unfold xmakeSlice at h
    split at h
    · iterate 4 (replace h := Option.bind_eq_some_iff.1 h; obtain ⟨_, _, h⟩ := h)
      obtain ⟨_, h⟩ := bif_some h
      exact mono_some ((Mono.ask _ _).new _ _) h
    · cases h
  · iterate 4 (replace h := Option.bind_eq_some_iff.1 h; obtain ⟨_, _, h⟩ := h)
    exact mono_slice h
  · replace h := Option.bind_eq_some_iff.1 h
    obtain ⟨_, _, h⟩ := h
    exact mono_map (.refl _) h
  · replace h := Option.bind_eq_some_iff.1 h
    obtain ⟨_, _, h⟩ := h
    exact mono_map (.refl _) h
  · iterate 2 (replace h := Option.bind_eq_some_iff.1 h; obtain ⟨_, _, h⟩ := h)
    unfold xindexAddr at h
    split at h
    · replace h := Option.bind_eq_some_iff.1 h
      obtain ⟨_, _, h⟩ := h
      split at h
      · split at h
        · cases h
        replace h := Option.bind_eq_some_iff.1 h
        obtain ⟨_, _, h⟩ := h
        obtain ⟨_, h⟩ := bif_some h
        exact mono_some (.ask _ _) h
      · split at h
        · cases h
        replace h := Option.bind_eq_some_iff.1 h
        obtain ⟨_, _, h⟩ := h
        obtain ⟨_, h⟩ := bif_some h
        exact mono_some (.ask _ _) h
      · cases h
    · cases h
  · iterate 2 (replace h := Option.bind_eq_some_iff.1 h; obtain ⟨_, _, h⟩ := h)
    unfold xindex at h
    split at h
    · replace h := Option.bind_eq_some_iff.1 h
      obtain ⟨_, _, h⟩ := h
      split at h
      · replace h := Option.bind_eq_some_iff.1 h
        obtain ⟨_, _, h⟩ := h
        obtain ⟨_, h⟩ := bif_some h
        exact mono_map (.ask _ _) h
      · exact mono_some (.ask _ _) h
      · cases h
    · cases h
  · replace h := Option.bind_eq_some_iff.1 h
    obtain ⟨_, _, h⟩ := h
    exact mono_map (.refl _) h
  · exact mono_call hcall h
  · cases h
theorem mono_guard (ops : Array Oper) (e : Env) (s : St) (o : Oper) : Mono s (guardE ops e s o).2 := by
  unfold guardE
  split
  · exact .refl _
  · split
    · exact .refl _
    · split
      · exact .test _ _
      · exact .refl _
theorem mono_guarded {call : CallK} (hcall : ∀ f args s v s', call f args s = some (v, s') → Mono s s') {ops : Array Oper} {o : Oper} {v : Value} (h : xguarded P call ops e s o = some (v, s')) : Mono s s' := by
  unfold xguarded at h
  cases hb : (guardE ops e s o).1
  · rw [hb] at h
    exact mono_some (mono_guard ops e s o) h
  · rw [hb] at h
    exact (mono_guard ops e s o).trans (mono_op hcall h)
theorem mono_ops {call : CallK} (hcall : ∀ f args s v s', call f args s = some (v, s') → Mono s s') {nt : Nat} {ops : Array Oper} : ∀ (l : List Oper) (f f' : Fr), evOps P call nt ops l f = some f' → Mono f.s f'.s
  | [], f, f', h => by simp only [evOps, Option.some.injEq] at h; subst h; exact .refl _
  | o :: l, f, f', h => by
    simp only [evOps] at h
    replace h := Option.bind_eq_some_iff.1 h
    obtain ⟨⟨v, s1⟩, h1, h⟩ := h
    replace h := Option.bind_eq_some_iff.1 h
    obtain ⟨e1, _, h⟩ := h
    exact (mono_guarded hcall h1).trans (mono_ops hcall l _ _ h)
end
end Go.Proofs.Ytnnagaioiodniaa.Eng
