/-
  A closed statement's run by the fast machine, one part of it shown ahead.
-/
import Derived.Test.YtliidiceljdgmaaEngZB
import Derived.Test.YtliidiceljdgmaaEngSay
namespace Go.Proofs.Ytliidiceljdgmaa.Eng
open Go.RowKit

theorem pure_true {P : Program} {call : CallK} (hcall : SoundCall P call) {f : FuncId} (h : SaysTrue (call f [] st0)) : Pure P f [] (.bool true) := by
  refine ⟨?_, fun u hu => (by cases hu), rfl, fun w => true_ok hcall h (fun u hu => (by cases hu)) w⟩
  cases hc : call f [] st0 with
  | none => rw [hc] at h; exact h.elim
  | some x =>
    obtain ⟨v, s⟩ := x
    rw [hc] at h
    have hO : s.O := by
      cases v with
      | bool b =>
        cases b
        · exact h.elim
        · exact h
      | _ => exact h.elim
    exact ((hcall f [] st0 v s hc).2 hO).1
/-- Functions that take nothing and answer true. -/
def baseC (l : List FuncId) : CallK := fun f args s => bif memN f l then match args with | [] => some (.bool true, s) | _ => none else none
theorem baseC_ok {P : Program} {l : List FuncId} (h : ∀ f ∈ l, Pure P f [] (.bool true)) : SoundCall P (baseC l) := by
  intro f args s v s' hc
  unfold baseC at hc
  obtain ⟨hf, hc⟩ := bif_some hc
  have hp := h f (memN_iff.1 hf)
  cases args with
  | cons => cases hc
  | nil =>
    cases hc
    refine ⟨.refl _, fun _ => ⟨hp.enters, fun r w hwf hg hfr hb => ?_⟩⟩
    refine (hp.calls w).mono ?_
    rintro e w' ⟨rfl, h4⟩
    exact ⟨r, by rw [val_flat2 _ hp.flat], To.of_below hg h4, bnd_flat2 _ hp.flat⟩
/-- The run over what was shown ahead: one word for it. -/
def RunW (P : Program) (l : List FuncId) (L k : Nat) (f : FuncId) : Prop := SaysTrue (kF P (baseC l) L k f [] st0)
theorem runW_pure {P : Program} {l : List FuncId} {L k : Nat} {f : FuncId} (hn : namesOk P = true) (hl : ∀ f ∈ l, Pure P f [] (.bool true)) (h : RunW P l L k f = True) : Pure P f [] (.bool true) :=
  pure_true (kF_ok (L := L) hn (baseC_ok hl) k) (of_eq_true h)
end Go.Proofs.Ytliidiceljdgmaa.Eng
