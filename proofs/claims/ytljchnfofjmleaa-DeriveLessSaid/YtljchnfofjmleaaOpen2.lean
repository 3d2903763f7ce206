/-
  A change (a struct with a capability in it), read: by value, and out of a slice.
-/
import Derived.Test.YtljchnfofjmleaaOpen
import Derived.Test.YtljchnfofjmleaaCapA
import Derived.Test.YtljchnfofjmleaaFrame
namespace Go.Proofs.Ytljchnfofjmleaa
open Go.ChangeShapes Go.WideShapes Go.Deep Go.RowKit

section
variable {H : Type} {enc : TypeId × Value → H} {w : World} {base : Nat} {spare : Nat → Bool} {held : Bool}
theorem cell_u32 {n : Nat} {u : Value} {y} (h : DataW.trod enc Try.prog w base spare held n 22 [u] = some y) : ∃ a : Nat, u = .int .u32 a ∧ a < 4294967296 := by
  obtain ⟨a, e, _, hw⟩ := DataW.trod_int Try.underlying22 h
  simp at e; subst e
  have b := wf_u32 hw
  obtain ⟨a, rfl⟩ := Int.eq_ofNat_of_zero_le b.1
  exact ⟨a, rfl, by omega⟩
theorem cell_u16 {n : Nat} {u : Value} {y} (h : DataW.trod enc Try.prog w base spare held n 23 [u] = some y) : ∃ a : Nat, u = .int .u16 a ∧ a < 65536 := by
  obtain ⟨a, e, _, hw⟩ := DataW.trod_int Try.underlying23 h
  simp at e; subst e
  have b := wf_u16 hw
  obtain ⟨a, rfl⟩ := Int.eq_ofNat_of_zero_le b.1
  exact ⟨a, rfl, by omega⟩
theorem cell_u8 {n : Nat} {u : Value} {y} (h : DataW.trod enc Try.prog w base spare held n 5 [u] = some y) : ∃ a : Nat, u = .int .u8 a ∧ a < 256 := by
  obtain ⟨a, e, _, hw⟩ := DataW.trod_int Try.underlying5 h
  simp at e; subst e
  have b := wf_u8 hw
  obtain ⟨a, rfl⟩ := Int.eq_ofNat_of_zero_le b.1
  exact ⟨a, rfl, by omega⟩
theorem cell_i64 {n : Nat} {u : Value} {y} (h : DataW.trod enc Try.prog w base spare held n 3 [u] = some y) : ∃ a : Int, u = .int .i64 a ∧ -9223372036854775808 ≤ a ∧ a ≤ 9223372036854775807 := by
  obtain ⟨a, e, _, hw⟩ := DataW.trod_int Try.underlying3 h
  simp at e; subst e
  exact ⟨a, rfl, wf_i64 hw⟩
theorem cell_bool {n : Nat} {u : Value} {y} (h : DataW.trod enc Try.prog w base spare held n 4 [u] = some y) : ∃ a : Bool, u = .bool a := by
  obtain ⟨a, e, _⟩ := DataW.trod_bool Try.underlying4 h
  simp at e; subst e
  exact ⟨a, rfl⟩
/-- The eight cells of a capability. -/
theorem cap_cells {fuel : Nat} {cs : List Value} {x} (h : DataW.trod enc Try.prog w base spare held fuel 25 cs = some x) (hl : cs.length = 8) :
    ∃ (cC cE cB cT cP cY cR : Nat) (cV : Bool), cs = [.int .u32 cC, .int .u8 cE, .int .u16 cB, .int .u16 cT, .int .u16 cP, .int .u16 cY, .int .u32 cR, .bool cV] ∧ capB cC cE cB cT cP cY cR := by
  obtain ⟨xs, n, _, _, _, hlen, hg⟩ := DataW.trod_struct Try.underlying25 h
  match cs, hl with
  | [u0, u1, u2, u3, u4, u5, u6, u7], _ =>
    have hx : ∀ j, j < 8 → ∃ y, xs[j]? = some y := fun j hj => ⟨xs[j]'(by simp at hlen; omega), List.getElem?_eq_getElem _⟩
    obtain ⟨y0, e0⟩ := hx 0 (by omega)
    obtain ⟨y1, e1⟩ := hx 1 (by omega)
    obtain ⟨y2, e2⟩ := hx 2 (by omega)
    obtain ⟨y3, e3⟩ := hx 3 (by omega)
    obtain ⟨y4, e4⟩ := hx 4 (by omega)
    obtain ⟨y5, e5⟩ := hx 5 (by omega)
    obtain ⟨y6, e6⟩ := hx 6 (by omega)
    obtain ⟨y7, e7⟩ := hx 7 (by omega)
    have t0 := (hg 0 _ rfl).trans e0
    have t1 := (hg 1 _ rfl).trans e1
    have t2 := (hg 2 _ rfl).trans e2
    have t3 := (hg 3 _ rfl).trans e3
    have t4 := (hg 4 _ rfl).trans e4
    have t5 := (hg 5 _ rfl).trans e5
    have t6 := (hg 6 _ rfl).trans e6
    have t7 := (hg 7 _ rfl).trans e7
    have c22 : Try.prog.cellsOf 22 = 1 := by kernel_rfl
    have c23 : Try.prog.cellsOf 23 = 1 := by kernel_rfl
    have c24 : Try.prog.cellsOf 5 = 1 := by kernel_rfl
    have c25 : Try.prog.cellsOf 4 = 1 := by kernel_rfl
    replace t0 : DataW.trod enc Try.prog w base spare held n 22 [u0] = some y0 := by simpa [c22, c23, c24, c25] using t0
    replace t1 : DataW.trod enc Try.prog w base spare held n 5 [u1] = some y1 := by simpa [c22, c23, c24, c25] using t1
    replace t2 : DataW.trod enc Try.prog w base spare held n 23 [u2] = some y2 := by simpa [c22, c23, c24, c25] using t2
    replace t3 : DataW.trod enc Try.prog w base spare held n 23 [u3] = some y3 := by simpa [c22, c23, c24, c25] using t3
    replace t4 : DataW.trod enc Try.prog w base spare held n 23 [u4] = some y4 := by simpa [c22, c23, c24, c25] using t4
    replace t5 : DataW.trod enc Try.prog w base spare held n 23 [u5] = some y5 := by simpa [c22, c23, c24, c25] using t5
    replace t6 : DataW.trod enc Try.prog w base spare held n 22 [u6] = some y6 := by simpa [c22, c23, c24, c25] using t6
    replace t7 : DataW.trod enc Try.prog w base spare held n 4 [u7] = some y7 := by simpa [c22, c23, c24, c25] using t7
    obtain ⟨cC, rfl, b0⟩ := cell_u32 t0
    obtain ⟨cE, rfl, b1⟩ := cell_u8 t1
    obtain ⟨cB, rfl, b2⟩ := cell_u16 t2
    obtain ⟨cT, rfl, b3⟩ := cell_u16 t3
    obtain ⟨cP, rfl, b4⟩ := cell_u16 t4
    obtain ⟨cY, rfl, b5⟩ := cell_u16 t5
    obtain ⟨cR, rfl, b6⟩ := cell_u32 t6
    obtain ⟨cV, rfl⟩ := cell_bool t7
    exact ⟨cC, cE, cB, cT, cP, cY, cR, cV, rfl, ⟨b0, b1, b2, b3, b4, b5, b6⟩⟩
/-- The ten cells of a change. -/
theorem chg_cells {fuel : Nat} {cs : List Value} {x} (h : DataW.trod enc Try.prog w base spare held fuel 38 cs = some x) (hl : cs.length = 10) :
    ∃ (k : Int) (n bC bE bB bT bP bY bR : Nat) (bV : Bool), cs = [.int .i64 k, .int .u32 n, .int .u32 bC, .int .u8 bE, .int .u16 bB, .int .u16 bT, .int .u16 bP, .int .u16 bY, .int .u32 bR, .bool bV] ∧
      -9223372036854775808 ≤ k ∧ k ≤ 9223372036854775807 ∧ n < 4294967296 ∧ capB bC bE bB bT bP bY bR := by
  obtain ⟨xs, n, _, _, _, hlen, hg⟩ := DataW.trod_struct Try.underlying38 h
  match cs, hl with
  | [u0, u1, u2, u3, u4, u5, u6, u7, u8, u9], _ =>
    have hx : ∀ j, j < 3 → ∃ y, xs[j]? = some y := fun j hj => ⟨xs[j]'(by simp at hlen; omega), List.getElem?_eq_getElem _⟩
    obtain ⟨y0, e0⟩ := hx 0 (by omega)
    obtain ⟨y1, e1⟩ := hx 1 (by omega)
    obtain ⟨y2, e2⟩ := hx 2 (by omega)
    have t0 := (hg 0 _ rfl).trans e0
    have t1 := (hg 1 _ rfl).trans e1
    have t2 := (hg 2 _ rfl).trans e2
    have c22 : Try.prog.cellsOf 22 = 1 := by kernel_rfl
    have c23 : Try.prog.cellsOf 3 = 1 := by kernel_rfl
    have c24 : Try.prog.cellsOf 25 = 8 := by kernel_rfl
    replace t0 : DataW.trod enc Try.prog w base spare held n 3 [u0] = some y0 := by simpa [c22, c23, c24] using t0
    replace t1 : DataW.trod enc Try.prog w base spare held n 22 [u1] = some y1 := by simpa [c22, c23, c24] using t1
    replace t2 : DataW.trod enc Try.prog w base spare held n 25 [u2, u3, u4, u5, u6, u7, u8, u9] = some y2 := by simpa [c22, c23, c24] using t2
    obtain ⟨k, rfl, b0⟩ := cell_i64 t0
    obtain ⟨m, rfl, b1⟩ := cell_u32 t1
    obtain ⟨bC, bE, bB, bT, bP, bY, bR, bV, he, hb⟩ := cap_cells t2 rfl
    injection he with e2 he; injection he with e3 he; injection he with e4 he; injection he with e5 he; injection he with e6 he; injection he with e7 he; injection he with e8 he; injection he with e9 he
    subst e2 e3 e4 e5 e6 e7 e8 e9
    exact ⟨k, m, bC, bE, bB, bT, bP, bY, bR, bV, rfl, b0.1, b0.2, b1, hb⟩
theorem open_chg {r : Reach} {b0 : Nat} {v : Value} {d : DataW H} {p : List MemPlace} (hv : Value.okWide Try.prog w r b0 38 v) (h : DataW.Trod enc Try.prog w base spare held 38 v d p) :
    ∃ (k : Int) (n bC bE bB bT bP bY bR : Nat) (bV : Bool), v = .agg #[.int .i64 k, .int .u32 n, .int .u32 bC, .int .u8 bE, .int .u16 bB, .int .u16 bT, .int .u16 bP, .int .u16 bY, .int .u32 bR, .bool bV] ∧
      -9223372036854775808 ≤ k ∧ k ≤ 9223372036854775807 ∧ n < 4294967296 ∧ capB bC bE bB bT bP bY bR := by
  obtain ⟨cs, rfl, hsz⟩ := okWide_struct Try.underlying38 hv
  obtain ⟨l⟩ := cs
  have c0 : Try.prog.cellsOf 38 = 10 := by kernel_rfl
  obtain ⟨fuel, hf⟩ := h
  obtain ⟨k, n, bC, bE, bB, bT, bP, bY, bR, bV, e, hb⟩ := chg_cells hf (hsz.trans c0)
  have e' : l = _ := e
  subst e'
  exact ⟨k, n, bC, bE, bB, bT, bP, bY, bR, bV, rfl, hb⟩
end
end Go.Proofs.Ytljchnfofjmleaa
