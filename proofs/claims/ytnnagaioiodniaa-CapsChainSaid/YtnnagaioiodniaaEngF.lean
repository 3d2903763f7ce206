/-
  The abstract machine: slices, conversions, append, copy.
-/
import Derived.Test.YtnnagaioiodniaaEngE
import Derived.IntWalk
import Derived.Laws.BytesString
import Derived.Laws.IdiomStrings
import Derived.Laws.Append
import Derived.Laws.AppendOwn
namespace Go.Proofs.Ytnnagaioiodniaa.Eng
open Go.RowKit

section
variable {P : Program} {r : Ren} {s s' : St} {w : World}

def SameBut (s s' : St) : Prop := s'.n = s.n ∧ s'.h = s.h ∧ s'.lo = s.lo ∧ (s'.O → s.O)
theorem SameBut.refl (s : St) : SameBut s s := ⟨rfl, rfl, rfl, id⟩
theorem SameBut.trans {s1 s2 s3 : St} (h : SameBut s1 s2) (h' : SameBut s2 s3) : SameBut s1 s3 :=
  ⟨h'.1.trans h.1, h'.2.1.trans h.2.1, h'.2.2.1.trans h.2.2.1, fun x => h.2.2.2 (h'.2.2.2 x)⟩
theorem SameBut.test (t : Bool) (s : St) : SameBut s (test t s).2 := ⟨test_n t s, test_h t s, test_lo t s, test_ob t s⟩
theorem SameBut.ask (t : Bool) (s : St) : SameBut s (ask t s).2 := ⟨rfl, rfl, rfl, ask_ob t s⟩
theorem SameBut.good (h : SameBut s s') (hg : Good r s w) : Good r s' w := hg.same h.2.1 h.2.2.1
theorem SameBut.to (h : SameBut s s') (hg : Good r s w) : To r s w r s' w := .same hg h.1 h.2.1 h.2.2.1

def IsInt (i : Int) : Option Value → Prop
  | some (.int _ j) => i = j
  | _ => False
theorem bound1_ok {d top n : Nat} {o : Option Value} (h : bound1 s d top o = some (n, s')) (hO : s'.O) :
    SameBut s s' ∧ ((o = none ∧ n = d) ∨ ∃ k i, o = some (.int k i) ∧ 0 ≤ i ∧ i ≤ top ∧ n = i.toNat) := by
  unfold bound1 at h
  split at h
  · simp only [Option.some.injEq, Prod.mk.injEq] at h
    obtain ⟨rfl, rfl⟩ := h
    exact ⟨.refl _, .inl ⟨rfl, rfl⟩⟩
  · rename_i k i
    cases hb : (ask (upLen i top) s).1
    · rw [hb] at h; cases h
    rw [hb] at h
    simp only [cond_true, Option.some.injEq, Prod.mk.injEq] at h
    obtain ⟨rfl, rfl⟩ := h
    rw [ask_eq _ _ hO, upLen_iff] at hb
    exact ⟨.ask _ _, .inr ⟨k, i, rfl, hb.1, hb.2, rfl⟩⟩
  · cases h
theorem run_sliceBound {k : IntKind} {i : Int} {y : Nat} (h0 : 0 ≤ i) (h1 : i ≤ y) (c : BoundsCode) (w : World) : (Instr.sliceBound (.int k i) y c).run P w = .ok i.toNat w := by
  simp only [Instr.sliceBound, asIntOf, Sem.run_bind, Sem.run_pure, Result.andThen_ok, if_pos (And.intro h0 h1)]

/-- The letters behind one more place and capacity. -/
def Ren.letter (r : Ren) (n o c : Nat) : Ren := ⟨r.b, fun g => if g = n then o else r.o g, fun g => if g = n then c else r.c g, fun g => Nat.beq g n || r.d g⟩
theorem Ren.letter_d (r : Ren) (n o c : Nat) : (r.letter n o c).d n = true := by simp [Ren.letter]
theorem Ren.letter_ext {r : Ren} {n : Nat} (h : r.d n = false) (o c : Nat) : Ext r (r.letter n o c) := ⟨fun g hg => by simp [Ren.letter, hg], fun _ _ => rfl, fun g hg => if_neg (ne_of_d h hg), fun g hg => if_neg (ne_of_d h hg)⟩
theorem Ren.letter_dom {r : Ren} {n o c g : Nat} (h : (r.letter n o c).d g = true) : r.d g = true ∨ (n ≤ g ∧ g < n + 1) := by
  simp only [Ren.letter, Bool.or_eq_true] at h
  rcases h with h | h
  · have := Nat.eq_of_beq_eq_true h; exact .inr (by omega)
  · exact .inl h
theorem to_letter (hg : Good r s w) (hfr : r.d s.n = false) (o c m : Nat) (hm : m ≤ c) : To r s w (r.letter s.n o c) { s with n := s.n + 1, lo := (s.n, m) :: s.lo } w := by
  have he := Ren.letter_ext hfr o c
  refine ⟨he, fun g hg => Ren.letter_dom hg, Nat.le_succ _, hg, ⟨?_, ?_, ?_, ?_⟩, rfl, rfl, rfl, Nat.le_refl _, fun _ _ _ => rfl, fun g k hk => .inl ⟨k, hk, id⟩⟩
  · intro g k hk; exact (hg.is g k hk).ext he (hg.lt g k hk).1 (hg.lt g k hk).2 rfl
  · intro g g' k k' h1 h2 h3; exact hg.inj g g' k k' h1 h2 h3
  · intro g k hk; exact ⟨he.d g (hg.lt g k hk).1, (hg.lt g k hk).2.mono he.d⟩
  · intro x hx
    rcases List.mem_cons.1 hx with rfl | hx
    · exact ⟨by simpa [Ren.letter] using hm, Ren.letter_d _ _ _ _⟩
    · have := hg.lo x hx
      rw [he.c x.1 this.2]
      exact ⟨this.1, he.d _ this.2⟩

theorem run_bounds0 {b : Bool} {len cap h l : Nat} {lo hi : Option Value} (w : World)
    (hh : (hi = none ∧ h = len) ∨ ∃ k i, hi = some (.int k i) ∧ 0 ≤ i ∧ i ≤ (cap : Int) ∧ h = i.toNat)
    (hl : (lo = none ∧ l = 0) ∨ ∃ k i, lo = some (.int k i) ∧ 0 ≤ i ∧ i ≤ (h : Int) ∧ l = i.toNat) :
    (Instr.sliceBounds b len cap lo hi none).run P w = .ok (l, h, cap) w := by
  unfold Instr.sliceBounds
  rcases hh with ⟨rfl, rfl⟩ | ⟨k, i, rfl, h0, h1, rfl⟩ <;> rcases hl with ⟨rfl, rfl⟩ | ⟨k', i', rfl, h0', h1', rfl⟩ <;>
    simp only [Sem.run_bind, Sem.run_pure, Result.andThen_ok, Option.isSome_none, Bool.false_eq_true, if_false]
  · rw [run_sliceBound h0' h1']; rfl
  · rw [run_sliceBound h0 h1]; rfl
  · rw [run_sliceBound h0 h1]; simp only [Result.andThen_ok]; rw [run_sliceBound h0' h1']; rfl
theorem run_bounds1 {b : Bool} {len cap m h l : Nat} {lo hi mx : Option Value} (w : World)
    (hm : ∃ k i, mx = some (.int k i) ∧ 0 ≤ i ∧ i ≤ (cap : Int) ∧ m = i.toNat)
    (hh : ∃ k i, hi = some (.int k i) ∧ 0 ≤ i ∧ i ≤ (m : Int) ∧ h = i.toNat)
    (hl : (lo = none ∧ l = 0) ∨ ∃ k i, lo = some (.int k i) ∧ 0 ≤ i ∧ i ≤ (h : Int) ∧ l = i.toNat) :
    (Instr.sliceBounds b len cap lo hi mx).run P w = .ok (l, h, m) w := by
  unfold Instr.sliceBounds
  obtain ⟨k1, i1, rfl, h10, h11, rfl⟩ := hm
  obtain ⟨k, i, rfl, h0, h1, rfl⟩ := hh
  rcases hl with ⟨rfl, rfl⟩ | ⟨k', i', rfl, h0', h1', rfl⟩ <;>
    simp only [Sem.run_bind, Sem.run_pure, Result.andThen_ok, Option.isSome_some, if_true] <;>
    rw [run_sliceBound h10 h11] <;> simp only [Result.andThen_ok] <;> rw [run_sliceBound h0 h1] <;>
    simp only [Result.andThen_ok]
  rw [run_sliceBound h0' h1']; rfl

theorem big_blt {c : Nat} : (Nat.blt c big = true ↔ c < big) := by simp
theorem cap_small {c : Nat} (h : c < big) : r.cap c = c := by
  unfold Ren.cap; rw [big_blt.2 h]; rfl
theorem toNat_le_of {i : Int} {n : Nat} (h0 : 0 ≤ i) (h : i ≤ n) : i.toNat ≤ n := by omega
theorem map_ints {o : Option Value} {k : IntKind} {i : Int} (h : o = some (.int k i)) : o.map r.val = some (.int k i) := by subst h; simp [val_int]

/-- A slice of a slice: the model's bounds, and its value. -/
theorem xsliceS_ok {a : Option Addr} {len cap size : Nat} {lo hi mx : Option Value} {v : Value} (b : Bool) (h : xsliceS s a len cap size lo hi mx = some (v, s')) (hx : bnd r.d (.slice a len cap) = true)
    (hg : Good r s w) (hfr : Fresh r s.n s'.n) (hO : s'.O) :
    s.O ∧ ∃ r' l h m, (Instr.sliceBounds b len (r.cap cap) (lo.map r.val) (hi.map r.val) (mx.map r.val)).run P w = .ok (l, h, m) w ∧ To r s w r' s' w ∧ bnd r'.d v = true ∧
      r'.val v = .slice (if m = l then a.map r.addr else (a.map r.addr).map (·.add (l * size))) (h - l) (m - l) := by
  rw [bnd_slice, Bool.and_eq_true] at hx
  obtain ⟨hxa, hxc⟩ := hx
  unfold xsliceS at h
  split at h
  · rename_i m0
    obtain ⟨⟨m, s1⟩, e1, h⟩ := Option.bind_eq_some_iff.1 h
    simp only [] at h
    obtain ⟨⟨hh, s2⟩, e2, h⟩ := Option.bind_eq_some_iff.1 h
    simp only [] at h
    obtain ⟨⟨l, s3⟩, e3, h⟩ := Option.bind_eq_some_iff.1 h
    simp only [] at h
    have hs3 : s' = s3 ∧ m < big ∧ ((a = none ∧ v = .slice none (hh - l) (m - l)) ∨ ∃ a', a = some a' ∧ a'.spot = none ∧ v = .slice (some (bif Nat.beq m l then a' else a'.add (l * size))) (hh - l) (m - l)) := by
      cases a with
      | none =>
        simp only [] at h
        cases hb : Nat.blt m big
        · rw [hb] at h; cases h
        · rw [hb] at h
          simp only [cond_true, Option.some.injEq, Prod.mk.injEq] at h
          exact ⟨h.2.symm, big_blt.1 hb, .inl ⟨rfl, h.1.symm⟩⟩
      | some a' =>
        simp only [] at h
        split at h
        · cases h
        rename_i hs
        cases hb : Nat.blt m big
        · rw [hb] at h; cases h
        · rw [hb] at h
          simp only [cond_true, Option.some.injEq, Prod.mk.injEq] at h
          exact ⟨h.2.symm, big_blt.1 hb, .inr ⟨a', rfl, hs, h.1.symm⟩⟩
    obtain ⟨rfl, hmb, hv⟩ := hs3
    obtain ⟨b3, c3⟩ := bound1_ok e3 hO
    have hO2 := b3.2.2.2 hO
    cases hi with
    | none => cases e2
    | some hi0 =>
    simp only [] at e2
    obtain ⟨b2, c2⟩ := bound1_ok e2 hO2
    obtain ⟨b1, c1⟩ := bound1_ok e1 (b2.2.2.2 hO2)
    have hsb := (b1.trans b2).trans b3
    rcases c1 with ⟨c1, _⟩ | ⟨k1, i1, hm, m0', m1, rfl⟩
    · cases c1
    rcases c2 with ⟨c2, _⟩ | ⟨k2, i2, hh', h0, h1, rfl⟩
    · cases c2
    have hcap := hg.cap cap
    have hlm : (if (i1.toNat) = l then a.map r.addr else (a.map r.addr).map (·.add (l * size))) = (match a with | none => none | some a' => some (r.addr (bif Nat.beq i1.toNat l then a' else a'.add (l * size)))) ∨ ∃ a', a = some a' ∧ a'.spot ≠ none := by
      cases a with
      | none => simp
      | some a' =>
        by_cases hs : a'.spot = none
        · left
          simp only [Option.map_some]
          by_cases e : i1.toNat = l
          · simp [e]
          · have : Nat.beq i1.toNat l = false := by
              cases hb : Nat.beq i1.toNat l
              · rfl
              · exact absurd (Nat.eq_of_beq_eq_true hb) e
            simp [e, this, addr_add r a' _ hs]
        · exact .inr ⟨a', rfl, hs⟩
    refine ⟨hsb.2.2.2 hO, r, l, i2.toNat, i1.toNat, run_bounds1 w ⟨k1, i1, map_ints hm, m0', by omega, rfl⟩ ⟨k2, i2, map_ints hh', h0, h1, rfl⟩ ?_, hsb.to hg, ?_, ?_⟩
    · rcases c3 with ⟨rfl, rfl⟩ | ⟨k3, i3, h3, h30, h31, rfl⟩
      · exact .inl ⟨rfl, rfl⟩
      · exact .inr ⟨k3, i3, map_ints h3, h30, h31, rfl⟩
    · have hml : Nat.blt (i1.toNat - l) big = true := big_blt.2 (by omega)
      rcases hv with ⟨rfl, rfl⟩ | ⟨a', rfl, hs, rfl⟩
      · rw [bnd_slice, hml]; rfl
      · rw [bnd_slice, hml]
        have : bndA r.d (bif Nat.beq i1.toNat l then a' else a'.add (l * size)) = true := by
          cases Nat.beq i1.toNat l
          · exact bndA_add hs hxa
          · exact hxa
        simp [this]
    · rcases hv with ⟨rfl, rfl⟩ | ⟨a', rfl, hs, rfl⟩
      · rw [val_slice, cap_small (by omega)]; simp
      · rcases hlm with hlm | ⟨a2, e, hne⟩
        · rw [hlm, val_slice, cap_small (by omega)]; rfl
        · cases e; exact absurd hs hne
  · obtain ⟨⟨hh, s1⟩, e1, h⟩ := Option.bind_eq_some_iff.1 h
    simp only [] at h
    obtain ⟨⟨l, s2⟩, e2, h⟩ := Option.bind_eq_some_iff.1 h
    simp only [] at h
    have key : s2.O → SameBut s s2 ∧ ((hi = none ∧ hh = len) ∨ ∃ k i, hi = some (.int k i) ∧ 0 ≤ i ∧ i ≤ (capLo s cap : Int) ∧ hh = i.toNat) ∧ ((lo = none ∧ l = 0) ∨ ∃ k i, lo = some (.int k i) ∧ 0 ≤ i ∧ i ≤ (hh : Int) ∧ l = i.toNat) := by
      intro h2
      obtain ⟨b2, c2⟩ := bound1_ok e2 h2
      obtain ⟨b1, c1⟩ := bound1_ok e1 (b2.2.2.2 h2)
      exact ⟨b1.trans b2, c1, c2⟩
    have hcap := hg.cap cap
    have run : s2.O → (Instr.sliceBounds b len (r.cap cap) (lo.map r.val) (hi.map r.val) ((none : Option Value).map r.val)).run P w = .ok (l, hh, r.cap cap) w := by
      intro h2
      obtain ⟨_, c1, c2⟩ := key h2
      refine run_bounds0 w ?_ ?_
      · rcases c1 with ⟨rfl, rfl⟩ | ⟨k, i, e, h0, h1, rfl⟩
        · exact .inl ⟨rfl, rfl⟩
        · exact .inr ⟨k, i, map_ints e, h0, by omega, rfl⟩
      · rcases c2 with ⟨rfl, rfl⟩ | ⟨k, i, e, h0, h1, rfl⟩
        · exact .inl ⟨rfl, rfl⟩
        · exact .inr ⟨k, i, map_ints e, h0, h1, rfl⟩
    cases a with
    | none =>
      simp only [] at h
      cases hb : Nat.blt cap big
      · rw [hb] at h; cases h
      rw [hb] at h
      simp only [cond_true, Option.some.injEq, Prod.mk.injEq] at h
      obtain ⟨rfl, rfl⟩ := h
      have hc := big_blt.1 hb
      obtain ⟨hsb, _⟩ := key hO
      refine ⟨hsb.2.2.2 hO, r, l, hh, r.cap cap, run hO, hsb.to hg, by rw [bnd_slice, big_blt.2 (show cap - l < big by omega)]; rfl, ?_⟩
      rw [val_slice, cap_small hc, cap_small (by omega)]; simp
    | some a =>
      simp only [] at h
      cases hl0 : Nat.beq l 0
      · rw [hl0] at h
        simp only [cond_false] at h
        have hl0' : l ≠ 0 := fun e => by rw [e] at hl0; cases hl0
        split at h
        · cases h
        rename_i hs
        cases hb : Nat.blt cap big
        · rw [hb] at h
          simp only [cond_false] at h
          cases hlt : Nat.blt l (capLo s2 cap)
          · rw [hlt] at h
            simp only [cond_false, Option.some.injEq, Prod.mk.injEq] at h
            obtain ⟨rfl, rfl⟩ := h
            obtain ⟨hsb, c1, c2⟩ := key hO
            have hg2 := hsb.good hg
            have hfr2 : r.d s2.n = false := hfr _ (by rw [hsb.1]; exact Nat.le_refl _) (Nat.lt_succ_self _)
            refine ⟨hsb.2.2.2 hO, r.letter s2.n (if r.cap cap = l then a.off else a.off + l * size) (r.cap cap - l), l, hh, r.cap cap, run hO, (hsb.to hg).trans (to_letter hg2 hfr2 _ _ _ ?_), ?_, ?_⟩
            · have := hg2.cap cap; omega
            · rw [bnd_slice]
              have : bndA r.d a = true := hxa
              simp only [bndA, Bool.and_eq_true] at this
              have hd := Ren.letter_d r s2.n (if r.cap cap = l then a.off else a.off + l * size) (r.cap cap - l)
              have hb := (Ren.letter_ext hfr2 (if r.cap cap = l then a.off else a.off + l * size) (r.cap cap - l)).d _ this.1
              simp [bndA, hd, hb]
            · rw [val_slice, cap_letter]
              simp only [Ren.letter, if_true, Option.map_some, Ren.addr, hs]
              by_cases e : r.cap cap = l
              · simp [e]
              · simp only [e, if_false, add_plain]
          · rw [hlt] at h
            simp only [cond_true, Option.some.injEq, Prod.mk.injEq] at h
            obtain ⟨rfl, rfl⟩ := h
            obtain ⟨hsb, c1, c2⟩ := key hO
            have hg2 := hsb.good hg
            have hc2 := hg2.cap cap
            have hltn : l < capLo s2 cap := by simpa using hlt
            have hfr2 : r.d s2.n = false := hfr _ (by rw [hsb.1]; exact Nat.le_refl _) (Nat.lt_succ_self _)
            refine ⟨hsb.2.2.2 hO, r.letter s2.n 0 (r.cap cap - l), l, hh, r.cap cap, run hO, (hsb.to hg).trans (to_letter hg2 hfr2 _ _ _ (by omega)), ?_, ?_⟩
            · rw [bnd_slice]
              have h1 := bndA_mono (Ren.letter_ext hfr2 0 (r.cap cap - l)).d (bndA_add (m := l * size) hs hxa)
              have hd := Ren.letter_d r s2.n 0 (r.cap cap - l)
              simp [h1, hd]
            · rw [val_slice, cap_letter, if_neg (by omega)]
              simp only [Ren.letter, if_true, Option.map_some]
              congr 2
              rw [← addr_add r a _ hs]
              have h2 : (a.add (l * size)).spot = none := by
                have : a = ⟨a.block, a.off, none⟩ := by cases a; simp at hs; subst hs; rfl
                rw [this, add_plain]
              simp only [Ren.addr, h2]
        · rw [hb] at h
          simp only [cond_true, Option.some.injEq, Prod.mk.injEq] at h
          obtain ⟨rfl, rfl⟩ := h
          have hc := big_blt.1 hb
          obtain ⟨hsb, c1, c2⟩ := key hO
          have hbA : bndA r.d (bif Nat.beq cap l then a else a.add (l * size)) = true := by
            cases Nat.beq cap l
            · exact bndA_add hs hxa
            · exact hxa
          refine ⟨hsb.2.2.2 hO, r, l, hh, r.cap cap, run hO, hsb.to hg, by rw [bnd_slice, big_blt.2 (show cap - l < big by omega)]; simp [hbA], ?_⟩
          rw [val_slice, cap_small hc, cap_small (by omega)]
          simp only [Option.map_some]
          by_cases e : cap = l
          · simp [e]
          · have : Nat.beq cap l = false := by
              cases hb2 : Nat.beq cap l
              · rfl
              · exact absurd (Nat.eq_of_beq_eq_true hb2) e
            simp [e, this, addr_add r a _ hs]
      · rw [hl0] at h
        have hl0' := Nat.eq_of_beq_eq_true hl0
        simp only [cond_true, Option.some.injEq, Prod.mk.injEq] at h
        obtain ⟨rfl, rfl⟩ := h
        obtain ⟨hsb, _⟩ := key hO
        refine ⟨hsb.2.2.2 hO, r, l, hh, r.cap cap, run hO, hsb.to hg, ?_, ?_⟩
        · rw [bnd_slice, Bool.and_eq_true]; exact ⟨hxa, hxc⟩
        · subst hl0'
          rw [val_slice]
          simp [Addr.add]
end
end Go.Proofs.Ytnnagaioiodniaa.Eng
