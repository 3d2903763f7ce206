/-
  CapsBytes: a capability's bytes, and the capability of bytes, are what the document says. No condition.
-/
import Derived.Test.YtnnagaioiodniaaCapSym2
import Derived.Test.YtnnagaioiodniaaFrame
import Derived.Test.YtnnagaioiodniaaOpen
namespace Go.Proofs.Ytnnagaioiodniaa
open Go.ChangeShapes Go.WideShapes Go.ChangeAt Go.RowKit
open Go.ChangeMaps (open_string shut_string)

theorem cbT (c : Int) (e : Int) (b : Int) (t : Int) (p : Int) (y : Int) (r : Int) (v : Bool) (w : Bool) (b0 : UInt8) (b1 : UInt8) (b2 : UInt8) (b3 : UInt8) (b4 : UInt8) (b5 : UInt8) (b6 : UInt8) (b7 : UInt8) (b8 : UInt8) (b9 : UInt8) (b10 : UInt8) (b11 : UInt8) (b12 : UInt8) (b13 : UInt8) (b14 : UInt8) (b15 : UInt8) : Eng.Path Try.prog (capAns2 false) 1000 20 8 [Value.agg { toList := [Value.int IntKind.u32 c, Value.int IntKind.u8 e, Value.int IntKind.u16 b, Value.int IntKind.u16 t, Value.int IntKind.u16 p, Value.int IntKind.u16 y, Value.int IntKind.u32 r, Value.bool v] }, Value.string { data := { toList := [b0, b1, b2, b3, b4, b5, b6, b7, b8, b9, b10, b11, b12, b13, b14, b15] } }, Value.bool w] [(0, true), (1, true), (2, true), (3, true), (4, true), (5, true), (6, true), (7, true), (8, true), (9, true), (10, true), (11, true), (12, true), (13, true), (14, true), (15, true), (16, true), (17, true), (18, true), (19, true), (20, true), (21, true)] = some (Value.bool true, ((((((((((((((((((((((((((((((True ∧ True) ∧ True) ∧ ((0 : Int) ≤ c ∧ c < (4294967296 : Int)) ∧ ((0 : Int) ≤ e ∧ e < (256 : Int)) ∧ ((0 : Int) ≤ b ∧ b < (65536 : Int)) ∧ ((0 : Int) ≤ t ∧ t < (65536 : Int)) ∧ ((0 : Int) ≤ p ∧ p < (65536 : Int)) ∧ ((0 : Int) ≤ y ∧ y < (65536 : Int)) ∧ (0 : Int) ≤ r ∧ r < (4294967296 : Int)) ∧ ((0 : Int) ≤ c ∧ c < (4294967296 : Int)) ∧ ((0 : Int) ≤ e ∧ e < (256 : Int)) ∧ ((0 : Int) ≤ b ∧ b < (65536 : Int)) ∧ ((0 : Int) ≤ t ∧ t < (65536 : Int)) ∧ ((0 : Int) ≤ p ∧ p < (65536 : Int)) ∧ ((0 : Int) ≤ y ∧ y < (65536 : Int)) ∧ (0 : Int) ≤ r ∧ r < (4294967296 : Int)) ∧ Eng.bytesEq [byteK c 0, byteK c 8, byteK c 16, byteK c 24, byteK e 0, byteK b 0, byteK b 8, byteK t 0, byteK t 8, byteK p 0, byteK p 8, byteK y 0, byteK y 8, byteK r 0, byteK r 8, byteK r 16] [byteK c 0, byteK c 8, byteK c 16, byteK c 24, byteK e 0, byteK b 0, byteK b 8, byteK t 0, byteK t 8, byteK p 0, byteK p 8, byteK y 0, byteK y 8, byteK r 0, byteK r 8, byteK r 16] = true) ∧ Eng.bytesEq [byteK c 0, byteK c 8, byteK c 16, byteK c 24, byteK e 0, byteK b 0, byteK b 8, byteK t 0, byteK t 8, byteK p 0, byteK p 8, byteK y 0, byteK y 8, byteK r 0, byteK r 8, byteK r 16] [byteK c 0, byteK c 8, byteK c 16, byteK c 24, byteK e 0, byteK b 0, byteK b 8, byteK t 0, byteK t 8, byteK p 0, byteK p 8, byteK y 0, byteK y 8, byteK r 0, byteK r 8, byteK r 16] = true) ∧ Eng.bytesEq [byteK c 0, byteK c 8, byteK c 16, byteK c 24, byteK e 0, byteK b 0, byteK b 8, byteK t 0, byteK t 8, byteK p 0, byteK p 8, byteK y 0, byteK y 8, byteK r 0, byteK r 8, byteK r 16] [byteK c 0, byteK c 8, byteK c 16, byteK c 24, byteK e 0, byteK b 0, byteK b 8, byteK t 0, byteK t 8, byteK p 0, byteK p 8, byteK y 0, byteK y 8, byteK r 0, byteK r 8, byteK r 16] = true) ∧ Eng.bytesEq [byteK c 0, byteK c 8, byteK c 16, byteK c 24, byteK e 0, byteK b 0, byteK b 8, byteK t 0, byteK t 8, byteK p 0, byteK p 8, byteK y 0, byteK y 8, byteK r 0, byteK r 8, byteK r 16] [byteK c 0, byteK c 8, byteK c 16, byteK c 24, byteK e 0, byteK b 0, byteK b 8, byteK t 0, byteK t 8, byteK p 0, byteK p 8, byteK y 0, byteK y 8, byteK r 0, byteK r 8, byteK r 16] = true) ∧ (num4 b0 b1 b2 b3 == num4 b0 b1 b2 b3 && (num1 b4 == num1 b4 && (num2 b5 b6 == num2 b5 b6 && (num2 b7 b8 == num2 b7 b8 && (num2 b9 b10 == num2 b9 b10 && (num2 b11 b12 == num2 b11 b12 && (num3 b13 b14 b15 == num3 b13 b14 b15 && ((w && sndR (num1 b4) (num2 b5 b6) (num2 b7 b8) (num2 b9 b10) (num2 b11 b12) (num3 b13 b14 b15)) == (w && sndR (num1 b4) (num2 b5 b6) (num2 b7 b8) (num2 b9 b10) (num2 b11 b12) (num3 b13 b14 b15)) && true)))))))) = true) ∧ (num4 b0 b1 b2 b3 == num4 b0 b1 b2 b3 && (num1 b4 == num1 b4 && (num2 b5 b6 == num2 b5 b6 && (num2 b7 b8 == num2 b7 b8 && (num2 b9 b10 == num2 b9 b10 && (num2 b11 b12 == num2 b11 b12 && (num3 b13 b14 b15 == num3 b13 b14 b15 && ((w && sndR (num1 b4) (num2 b5 b6) (num2 b7 b8) (num2 b9 b10) (num2 b11 b12) (num3 b13 b14 b15)) == (w && sndR (num1 b4) (num2 b5 b6) (num2 b7 b8) (num2 b9 b10) (num2 b11 b12) (num3 b13 b14 b15)) && true)))))))) = true) ∧ (num4 b0 b1 b2 b3 == num4 b0 b1 b2 b3 && (num1 b4 == num1 b4 && (num2 b5 b6 == num2 b5 b6 && (num2 b7 b8 == num2 b7 b8 && (num2 b9 b10 == num2 b9 b10 && (num2 b11 b12 == num2 b11 b12 && (num3 b13 b14 b15 == num3 b13 b14 b15 && ((w && sndR (num1 b4) (num2 b5 b6) (num2 b7 b8) (num2 b9 b10) (num2 b11 b12) (num3 b13 b14 b15)) == (w && sndR (num1 b4) (num2 b5 b6) (num2 b7 b8) (num2 b9 b10) (num2 b11 b12) (num3 b13 b14 b15)) && true)))))))) = true) ∧ (num4 b0 b1 b2 b3 == num4 b0 b1 b2 b3 && (num1 b4 == num1 b4 && (num2 b5 b6 == num2 b5 b6 && (num2 b7 b8 == num2 b7 b8 && (num2 b9 b10 == num2 b9 b10 && (num2 b11 b12 == num2 b11 b12 && (num3 b13 b14 b15 == num3 b13 b14 b15 && ((w && sndR (num1 b4) (num2 b5 b6) (num2 b7 b8) (num2 b9 b10) (num2 b11 b12) (num3 b13 b14 b15)) == (w && sndR (num1 b4) (num2 b5 b6) (num2 b7 b8) (num2 b9 b10) (num2 b11 b12) (num3 b13 b14 b15)) && true)))))))) = true) ∧ true = true) ∧ true = true) ∧ true = true) ∧ True) ∧ true = true) ∧ True) ∧ true = true) ∧ true = true) ∧ (sndP e b t p y r == sndR e b t p y r) = true) ∧ (sndP e b t p y r == sndR e b t p y r) = true) ∧ (sndP e b t p y r == sndR e b t p y r) = true) ∧ True) ∧ (sndP e b t p y r == sndR e b t p y r) = true) ∧ True) ∧ (sndP e b t p y r == sndR e b t p y r) = true) ∧ (sndP e b t p y r == sndR e b t p y r) = true) ∧ (isNum c e b t p y r v == isNum c e b t p y r v) = true) ∧ True) ∧ (isNum c e b t p y r v == isNum c e b t p y r v) = true) := by kernel_rfl
theorem cbZ (c : Int) (e : Int) (b : Int) (t : Int) (p : Int) (y : Int) (r : Int) (v : Bool) (w : Bool) (l : List UInt8) : Eng.Path Try.prog (capAns2 true) 1000 20 8 [Value.agg { toList := [Value.int IntKind.u32 c, Value.int IntKind.u8 e, Value.int IntKind.u16 b, Value.int IntKind.u16 t, Value.int IntKind.u16 p, Value.int IntKind.u16 y, Value.int IntKind.u32 r, Value.bool v] }, Value.string { data := { toList := l } }, Value.bool w] [(0, true), (1, true), (2, true), (3, true), (4, true), (5, true), (6, true), (7, true), (8, true), (9, true), (10, true), (11, true), (12, true), (13, true), (14, true), (15, true), (16, true), (17, true), (18, true), (19, true), (20, true), (21, true)] = some (Value.bool true, ((((((((((((((((((((((((((((((True ∧ ¬l.length = 16) ∧ ¬l.length = 16) ∧ ((0 : Int) ≤ c ∧ c < (4294967296 : Int)) ∧ ((0 : Int) ≤ e ∧ e < (256 : Int)) ∧ ((0 : Int) ≤ b ∧ b < (65536 : Int)) ∧ ((0 : Int) ≤ t ∧ t < (65536 : Int)) ∧ ((0 : Int) ≤ p ∧ p < (65536 : Int)) ∧ ((0 : Int) ≤ y ∧ y < (65536 : Int)) ∧ (0 : Int) ≤ r ∧ r < (4294967296 : Int)) ∧ ((0 : Int) ≤ c ∧ c < (4294967296 : Int)) ∧ ((0 : Int) ≤ e ∧ e < (256 : Int)) ∧ ((0 : Int) ≤ b ∧ b < (65536 : Int)) ∧ ((0 : Int) ≤ t ∧ t < (65536 : Int)) ∧ ((0 : Int) ≤ p ∧ p < (65536 : Int)) ∧ ((0 : Int) ≤ y ∧ y < (65536 : Int)) ∧ (0 : Int) ≤ r ∧ r < (4294967296 : Int)) ∧ Eng.bytesEq [byteK c 0, byteK c 8, byteK c 16, byteK c 24, byteK e 0, byteK b 0, byteK b 8, byteK t 0, byteK t 8, byteK p 0, byteK p 8, byteK y 0, byteK y 8, byteK r 0, byteK r 8, byteK r 16] [byteK c 0, byteK c 8, byteK c 16, byteK c 24, byteK e 0, byteK b 0, byteK b 8, byteK t 0, byteK t 8, byteK p 0, byteK p 8, byteK y 0, byteK y 8, byteK r 0, byteK r 8, byteK r 16] = true) ∧ Eng.bytesEq [byteK c 0, byteK c 8, byteK c 16, byteK c 24, byteK e 0, byteK b 0, byteK b 8, byteK t 0, byteK t 8, byteK p 0, byteK p 8, byteK y 0, byteK y 8, byteK r 0, byteK r 8, byteK r 16] [byteK c 0, byteK c 8, byteK c 16, byteK c 24, byteK e 0, byteK b 0, byteK b 8, byteK t 0, byteK t 8, byteK p 0, byteK p 8, byteK y 0, byteK y 8, byteK r 0, byteK r 8, byteK r 16] = true) ∧ Eng.bytesEq [byteK c 0, byteK c 8, byteK c 16, byteK c 24, byteK e 0, byteK b 0, byteK b 8, byteK t 0, byteK t 8, byteK p 0, byteK p 8, byteK y 0, byteK y 8, byteK r 0, byteK r 8, byteK r 16] [byteK c 0, byteK c 8, byteK c 16, byteK c 24, byteK e 0, byteK b 0, byteK b 8, byteK t 0, byteK t 8, byteK p 0, byteK p 8, byteK y 0, byteK y 8, byteK r 0, byteK r 8, byteK r 16] = true) ∧ Eng.bytesEq [byteK c 0, byteK c 8, byteK c 16, byteK c 24, byteK e 0, byteK b 0, byteK b 8, byteK t 0, byteK t 8, byteK p 0, byteK p 8, byteK y 0, byteK y 8, byteK r 0, byteK r 8, byteK r 16] [byteK c 0, byteK c 8, byteK c 16, byteK c 24, byteK e 0, byteK b 0, byteK b 8, byteK t 0, byteK t 8, byteK p 0, byteK p 8, byteK y 0, byteK y 8, byteK r 0, byteK r 8, byteK r 16] = true) ∧ true = true) ∧ true = true) ∧ true = true) ∧ true = true) ∧ true = true) ∧ true = true) ∧ true = true) ∧ True) ∧ true = true) ∧ True) ∧ true = true) ∧ true = true) ∧ (sndP e b t p y r == sndR e b t p y r) = true) ∧ (sndP e b t p y r == sndR e b t p y r) = true) ∧ (sndP e b t p y r == sndR e b t p y r) = true) ∧ True) ∧ (sndP e b t p y r == sndR e b t p y r) = true) ∧ True) ∧ (sndP e b t p y r == sndR e b t p y r) = true) ∧ (sndP e b t p y r == sndR e b t p y r) = true) ∧ (isNum c e b t p y r v == isNum c e b t p y r v) = true) ∧ True) ∧ (isNum c e b t p y r v == isNum c e b t p y r v) = true) := by kernel_rfl

theorem three_flat {u v w x : Value} (h : Eng.flat2 v = true) (h' : Eng.flat2 w = true) (h2 : Eng.flat2 x = true) (hu : u ∈ [v, w, x]) : Eng.flat2 u = true := by
  rcases List.mem_cons.1 hu with rfl | hu
  · exact h
  · exact two_flat h' h2 hu
theorem bytesEq_self (l : List UInt8) : Eng.bytesEq l l = true := by rw [Eng.bytesEq_iff]; exact beq_self_eq_true l
theorem list16 {l : List UInt8} (h : l.length = 16) : ∃ b0 b1 b2 b3 b4 b5 b6 b7 b8 b9 b10 b11 b12 b13 b14 b15, l = [b0, b1, b2, b3, b4, b5, b6, b7, b8, b9, b10, b11, b12, b13, b14, b15] := by
  match l, h with
  | [b0, b1, b2, b3, b4, b5, b6, b7, b8, b9, b10, b11, b12, b13, b14, b15], _ => exact ⟨b0, b1, b2, b3, b4, b5, b6, b7, b8, b9, b10, b11, b12, b13, b14, b15, rfl⟩
theorem capsBytes_walk {c e b t p y r : Int} (v w : Bool) (l : List UInt8) (W : World) (hc : 0 ≤ c ∧ c < 4294967296) (he : 0 ≤ e ∧ e < 256) (hb : 0 ≤ b ∧ b < 65536) (ht : 0 ≤ t ∧ t < 65536) (hp : 0 ≤ p ∧ p < 65536) (hy : 0 ≤ y ∧ y < 65536) (hr : 0 ≤ r ∧ r < 4294967296) :
    Calls Try.prog 8 #[.agg ⟨[Value.int IntKind.u32 c, Value.int IntKind.u8 e, Value.int IntKind.u16 b, Value.int IntKind.u16 t, Value.int IntKind.u16 p, Value.int IntKind.u16 y, Value.int IntKind.u32 r, Value.bool v]⟩, .string ⟨⟨l⟩⟩, .bool w] W fun e' w' => e' = .returned (.bool true) ∧ Below W.heap.size W w' := by
  have hs : (sndP e b t p y r == sndR e b t p y r) = true := by rw [snd_eq he hb ht hp hy]; exact beq_self_eq_true _
  by_cases hl : l.length = 16
  · obtain ⟨b0, b1, b2, b3, b4, b5, b6, b7, b8, b9, b10, b11, b12, b13, b14, b15, rfl⟩ := list16 hl
    refine (Eng.path_pure sym_names (capAns2_ok false) (cbT c e b t p y r v w b0 b1 b2 b3 b4 b5 b6 b7 b8 b9 b10 b11 b12 b13 b14 b15) ?_ (fun _ hu => three_flat rfl rfl rfl hu) rfl).calls W
    (repeat' apply And.intro) <;> first | trivial | rfl | exact hs | exact bytesEq_self _ | omega | (simp only [beq_self_eq_true, Bool.and_self]; done)
  · refine (Eng.path_pure sym_names (capAns2_ok true) (cbZ c e b t p y r v w l) ?_ (fun _ hu => three_flat rfl rfl rfl hu) rfl).calls W
    (repeat' apply And.intro) <;> first | trivial | rfl | exact hl | exact hs | exact bytesEq_self _ | omega | (simp only [beq_self_eq_true]; done)
theorem capsBytes_law : LawWalk 8 Try.f8 := by
  intro H enc W base args ds p hval hA
  rw [Try.params8] at hA hval
  obtain ⟨v0, vs0, d0, ds0, p0, q0, hargs, rfl, rfl, h0, r0⟩ := trodAll_cons hA
  obtain ⟨v1, vs1, d1, ds1, p1, q1, rfl, rfl, rfl, h1, r1⟩ := trodAll_cons r0
  obtain ⟨v2, vs2, d2, ds2, p2, q2, rfl, rfl, rfl, h2, r2⟩ := trodAll_cons r1
  obtain ⟨rfl, rfl, rfl⟩ := trodAll_nil r2
  obtain rfl : args = #[v0, v1, v2] := by cases args; simp_all
  obtain ⟨cs0, rfl, hcl0, hcf0⟩ := open_agg_all Try.underlying25 (by kernel_rfl) (by kernel_rfl) (hval 0 _ v0 rfl rfl) h0
  obtain ⟨u0_0, y0_0, n0_0, hu0_0, hy0_0⟩ := hcf0 0 _ rfl
  obtain ⟨a0_0, e0_0, _, w0_0⟩ := DataW.trod_int Try.underlying22 hy0_0
  simp at e0_0; subst e0_0
  have b0_0 := wf_u32 w0_0
  obtain ⟨a0_0, rfl⟩ := Int.eq_ofNat_of_zero_le b0_0.1
  obtain ⟨u0_1, y0_1, n0_1, hu0_1, hy0_1⟩ := hcf0 1 _ rfl
  obtain ⟨a0_1, e0_1, _, w0_1⟩ := DataW.trod_int Try.underlying5 hy0_1
  simp at e0_1; subst e0_1
  have b0_1 := wf_u8 w0_1
  obtain ⟨a0_1, rfl⟩ := Int.eq_ofNat_of_zero_le b0_1.1
  obtain ⟨u0_2, y0_2, n0_2, hu0_2, hy0_2⟩ := hcf0 2 _ rfl
  obtain ⟨a0_2, e0_2, _, w0_2⟩ := DataW.trod_int Try.underlying23 hy0_2
  simp at e0_2; subst e0_2
  have b0_2 := wf_u16 w0_2
  obtain ⟨a0_2, rfl⟩ := Int.eq_ofNat_of_zero_le b0_2.1
  obtain ⟨u0_3, y0_3, n0_3, hu0_3, hy0_3⟩ := hcf0 3 _ rfl
  obtain ⟨a0_3, e0_3, _, w0_3⟩ := DataW.trod_int Try.underlying23 hy0_3
  simp at e0_3; subst e0_3
  have b0_3 := wf_u16 w0_3
  obtain ⟨a0_3, rfl⟩ := Int.eq_ofNat_of_zero_le b0_3.1
  obtain ⟨u0_4, y0_4, n0_4, hu0_4, hy0_4⟩ := hcf0 4 _ rfl
  obtain ⟨a0_4, e0_4, _, w0_4⟩ := DataW.trod_int Try.underlying23 hy0_4
  simp at e0_4; subst e0_4
  have b0_4 := wf_u16 w0_4
  obtain ⟨a0_4, rfl⟩ := Int.eq_ofNat_of_zero_le b0_4.1
  obtain ⟨u0_5, y0_5, n0_5, hu0_5, hy0_5⟩ := hcf0 5 _ rfl
  obtain ⟨a0_5, e0_5, _, w0_5⟩ := DataW.trod_int Try.underlying23 hy0_5
  simp at e0_5; subst e0_5
  have b0_5 := wf_u16 w0_5
  obtain ⟨a0_5, rfl⟩ := Int.eq_ofNat_of_zero_le b0_5.1
  obtain ⟨u0_6, y0_6, n0_6, hu0_6, hy0_6⟩ := hcf0 6 _ rfl
  obtain ⟨a0_6, e0_6, _, w0_6⟩ := DataW.trod_int Try.underlying22 hy0_6
  simp at e0_6; subst e0_6
  have b0_6 := wf_u32 w0_6
  obtain ⟨a0_6, rfl⟩ := Int.eq_ofNat_of_zero_le b0_6.1
  obtain ⟨u0_7, y0_7, n0_7, hu0_7, hy0_7⟩ := hcf0 7 _ rfl
  obtain ⟨a0_7, e0_7, _⟩ := DataW.trod_bool Try.underlying4 hy0_7
  simp at e0_7; subst e0_7
  obtain rfl := eq8 hcl0 hu0_0 hu0_1 hu0_2 hu0_3 hu0_4 hu0_5 hu0_6 hu0_7
  clear hcf0
  obtain ⟨a1, rfl, rfl, rfl, w1⟩ := open_string Try.underlying9 (hval 1 _ v1 rfl rfl) h1
  obtain ⟨l1, rfl⟩ := bs_of a1
  rw [bs_size] at w1
  obtain ⟨a2, rfl, rfl, rfl⟩ := open_bool Try.underlying4 (hval 2 _ v2 rfl rfl) h2
  exact capsBytes_walk a0_7 a2 l1 W ⟨by omega, by omega⟩ ⟨by omega, by omega⟩ ⟨by omega, by omega⟩ ⟨by omega, by omega⟩ ⟨by omega, by omega⟩ ⟨by omega, by omega⟩ ⟨by omega, by omega⟩
set_option maxRecDepth 100000 in
theorem capsBytes_proved : Rows.CapsBytesSaid :=
  OpenClaim.holds_of_wide 8 Try.f8 rfl rfl rfl rfl rfl rfl rfl ⟨rfl, rfl, rfl, rfl, rfl⟩ rfl rfl rfl rfl rfl (by kernel_rfl) Try.func8 (by kernel_rfl)
    (of_decide_eq_true (by kernel_rfl)) (by unfold Func.isWrapper; first | (rw [if_pos (by decide +kernel)]; kernel_rfl) | (rw [if_neg (by decide +kernel)]; exact ⟨rfl, rfl⟩))
    (fun os started H enc _ => law_lifted 8 Try.f8 Rows.capsBytesSpec Rows.capsBytesRow.domain Try.func8 (by kernel_rfl) rfl rfl
      (fun H ds hd => by match ds, hd with | [d0, d1, d2], _ => exact ⟨rfl, rfl, rfl⟩) (by decide +kernel) capsBytes_law os started H enc
      (ChangeSpec.witness6 (enc := enc) (C := Try.checked) false ⟨#[], #[.agg #[.int .u32 0, .int .u8 0, .int .u16 0, .int .u16 0, .int .u16 0, .int .u16 0, .int .u32 0, .bool false], .string ByteArray.empty, .bool false], []⟩ 8 (by kernel_rfl) (by kernel_rfl) (by kernel_rfl) (by kernel_rfl)))
#print axioms capsBytes_proved
end Go.Proofs.Ytnnagaioiodniaa
