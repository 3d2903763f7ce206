/-
  Chapter 21: may a relocation be?
-/
import Derived.Test.YtdljpnebpoaeiaaImgI
namespace Go.Proofs.Ytdljpnebpoaeiaa
open Go.RowKit
open Sy

def layW (a b c d e f g h : Int) : Value := .agg ⟨[.int .u32 a, .int .u32 b, .int .u32 c, .int .u32 d, .int .u32 e, .int .u32 f, .int .u32 g, .int .u32 h]⟩
def relW (at_ : Int) (code : Bool) (off size perms typ : Int) : Value := .agg ⟨[.int .u32 at_, .bool code, .int .u32 off, .int .u32 size, .int .u16 perms, .int .u16 typ]⟩
theorem right_dn (pages : Int) (stack : Int) (types : Int) (nc : Nat) (nr : Nat) (ns : Nat) (data : List UInt8) (a : Int) (b : Int) (c : Int) (d : Int) (e : Int) (f : Int) (g : Int) (h : Int) (x : Int) (off : Int) (size : Int) (perms : Int) (typ : Int) (behind : Int) : evF Try.prog (baseC 3 selK) noLoop 100 10 27 [imgV pages stack types nc nr ns data, layW a b c d e f g h, relW x false off size perms typ, Value.int IntKind.u32 behind] { n := 67, h := [], lo := [], esc := 0, T := [(1, true)], k := 0, O := True : St } = some (Value.bool false, { n := 72, h := [], lo := [], esc := 0, T := [], k := 2, O := (True ∧ (true = true ∧ 6 < 9000000000000000000) ∧ (Value.slice (some { block := 71, off := 0 }) 6 6 = Value.slice (some { block := 71, off := 0 }) 6 6 ∧ True) ∧ ((true = true ∧ true = true ∧ true = true ∧ true = true ∧ true = true ∧ True ∧ [Value.bool (x.tmod (16 : Int) != (0 : Int)), Value.bool (decide (x < behind)), Value.bool (decide (IntKind.u64.wrap (IntKind.u64.wrap x + (16 : Int)) > IntKind.u64.wrap (↑(lenT data) : Int))), Value.bool (decide (IntKind.u64.wrap (IntKind.u64.wrap off + IntKind.u64.wrap size) > IntKind.u64.wrap (↑(lenT data) : Int))), Value.bool (bits BinOp.andNot IntKind.u16 perms (155 : Int) != (0 : Int)), Value.bool (decide (IntKind.i64.wrap typ > types))] = [Value.bool (x.tmod (16 : Int) != (0 : Int)), Value.bool (decide (x < behind)), Value.bool (decide (IntKind.u64.wrap (IntKind.u64.wrap x + (16 : Int)) > IntKind.u64.wrap (↑(lenT data) : Int))), Value.bool (decide (IntKind.u64.wrap (IntKind.u64.wrap off + IntKind.u64.wrap size) > IntKind.u64.wrap (↑(lenT data) : Int))), Value.bool (bits BinOp.andNot IntKind.u16 perms (155 : Int) != (0 : Int)), Value.bool (decide (IntKind.i64.wrap typ > types))]) ∧ True) ∧ True) ∧ (!!(x.tmod (16 : Int) != (0 : Int) || (decide (x < behind) || (decide (IntKind.u64.wrap (IntKind.u64.wrap x + (16 : Int)) > IntKind.u64.wrap (↑(lenT data) : Int)) || (decide (IntKind.u64.wrap (IntKind.u64.wrap off + IntKind.u64.wrap size) > IntKind.u64.wrap (↑(lenT data) : Int)) || (bits BinOp.andNot IntKind.u16 perms (155 : Int) != (0 : Int) || (decide (IntKind.i64.wrap typ > types) || false))))))) = true : St }) := by kernel_rfl
theorem right_dy (pages : Int) (stack : Int) (types : Int) (nc : Nat) (nr : Nat) (ns : Nat) (data : List UInt8) (a : Int) (b : Int) (c : Int) (d : Int) (e : Int) (f : Int) (g : Int) (h : Int) (x : Int) (off : Int) (size : Int) (perms : Int) (typ : Int) (behind : Int) : evF Try.prog (baseC 3 selK) noLoop 100 10 27 [imgV pages stack types nc nr ns data, layW a b c d e f g h, relW x false off size perms typ, Value.int IntKind.u32 behind] { n := 67, h := [], lo := [], esc := 0, T := [(1, false)], k := 0, O := True : St } = some (Value.bool (encX (IntKind.u32.wrap (c + off)).toNat (IntKind.u64.wrap (IntKind.u64.wrap (IntKind.u32.wrap (c + off)) + IntKind.u64.wrap size)).toNat), { n := 72, h := [], lo := [], esc := 0, T := [], k := 2, O := ((True ∧ (true = true ∧ 6 < 9000000000000000000) ∧ (Value.slice (some { block := 71, off := 0 }) 6 6 = Value.slice (some { block := 71, off := 0 }) 6 6 ∧ True) ∧ ((true = true ∧ true = true ∧ true = true ∧ true = true ∧ true = true ∧ True ∧ [Value.bool (x.tmod (16 : Int) != (0 : Int)), Value.bool (decide (x < behind)), Value.bool (decide (IntKind.u64.wrap (IntKind.u64.wrap x + (16 : Int)) > IntKind.u64.wrap (↑(lenT data) : Int))), Value.bool (decide (IntKind.u64.wrap (IntKind.u64.wrap off + IntKind.u64.wrap size) > IntKind.u64.wrap (↑(lenT data) : Int))), Value.bool (bits BinOp.andNot IntKind.u16 perms (155 : Int) != (0 : Int)), Value.bool (decide (IntKind.i64.wrap typ > types))] = [Value.bool (x.tmod (16 : Int) != (0 : Int)), Value.bool (decide (x < behind)), Value.bool (decide (IntKind.u64.wrap (IntKind.u64.wrap x + (16 : Int)) > IntKind.u64.wrap (↑(lenT data) : Int))), Value.bool (decide (IntKind.u64.wrap (IntKind.u64.wrap off + IntKind.u64.wrap size) > IntKind.u64.wrap (↑(lenT data) : Int))), Value.bool (bits BinOp.andNot IntKind.u16 perms (155 : Int) != (0 : Int)), Value.bool (decide (IntKind.i64.wrap typ > types))]) ∧ True) ∧ True) ∧ (!!(x.tmod (16 : Int) != (0 : Int) || (decide (x < behind) || (decide (IntKind.u64.wrap (IntKind.u64.wrap x + (16 : Int)) > IntKind.u64.wrap (↑(lenT data) : Int)) || (decide (IntKind.u64.wrap (IntKind.u64.wrap off + IntKind.u64.wrap size) > IntKind.u64.wrap (↑(lenT data) : Int)) || (bits BinOp.andNot IntKind.u16 perms (155 : Int) != (0 : Int) || (decide (IntKind.i64.wrap typ > types) || false))))))) = false) ∧ (((0 : Int) ≤ IntKind.u32.wrap (c + off) ∧ IntKind.u32.wrap (c + off) < (4294967296 : Int)) ∧ (0 : Int) ≤ IntKind.u64.wrap (IntKind.u64.wrap (IntKind.u32.wrap (c + off)) + IntKind.u64.wrap size) ∧ IntKind.u64.wrap (IntKind.u64.wrap (IntKind.u32.wrap (c + off)) + IntKind.u64.wrap size) < (18446744073709551616 : Int)) ∧ (Value.int IntKind.u32 (IntKind.u32.wrap (c + off)) = Value.int IntKind.u32 (IntKind.u32.wrap (c + off)) ∧ Value.int IntKind.u64 (IntKind.u64.wrap (IntKind.u64.wrap (IntKind.u32.wrap (c + off)) + IntKind.u64.wrap size)) = Value.int IntKind.u64 (IntKind.u64.wrap (IntKind.u64.wrap (IntKind.u32.wrap (c + off)) + IntKind.u64.wrap size)) ∧ True) ∧ True ∧ True : St }) := by kernel_rfl
theorem right_cn (pages : Int) (stack : Int) (types : Int) (nc : Nat) (nr : Nat) (ns : Nat) (data : List UInt8) (a : Int) (b : Int) (c : Int) (d : Int) (e : Int) (f : Int) (g : Int) (h : Int) (x : Int) (off : Int) (size : Int) (perms : Int) (typ : Int) (behind : Int) : evF Try.prog (baseC 3 selK) noLoop 100 10 27 [imgV pages stack types nc nr ns data, layW a b c d e f g h, relW x true off size perms typ, Value.int IntKind.u32 behind] { n := 67, h := [], lo := [], esc := 0, T := [(1, true)], k := 0, O := True : St } = some (Value.bool false, { n := 72, h := [], lo := [], esc := 0, T := [], k := 2, O := (True ∧ (true = true ∧ 6 < 9000000000000000000) ∧ (Value.slice (some { block := 71, off := 0 }) 6 6 = Value.slice (some { block := 71, off := 0 }) 6 6 ∧ True) ∧ ((true = true ∧ true = true ∧ true = true ∧ true = true ∧ true = true ∧ True ∧ [Value.bool (x.tmod (16 : Int) != (0 : Int)), Value.bool (decide (x < behind)), Value.bool (decide (IntKind.u64.wrap (IntKind.u64.wrap x + (16 : Int)) > IntKind.u64.wrap (↑(lenT data) : Int))), Value.bool (decide (IntKind.u64.wrap (IntKind.u64.wrap off + IntKind.u64.wrap size) > IntKind.u64.wrap ((4 : Int) * IntKind.u64.wrap (↑nc : Int)))), Value.bool (bits BinOp.andNot IntKind.u16 perms (133 : Int) != (0 : Int)), Value.bool (decide (IntKind.i64.wrap typ > types))] = [Value.bool (x.tmod (16 : Int) != (0 : Int)), Value.bool (decide (x < behind)), Value.bool (decide (IntKind.u64.wrap (IntKind.u64.wrap x + (16 : Int)) > IntKind.u64.wrap (↑(lenT data) : Int))), Value.bool (decide (IntKind.u64.wrap (IntKind.u64.wrap off + IntKind.u64.wrap size) > IntKind.u64.wrap ((4 : Int) * IntKind.u64.wrap (↑nc : Int)))), Value.bool (bits BinOp.andNot IntKind.u16 perms (133 : Int) != (0 : Int)), Value.bool (decide (IntKind.i64.wrap typ > types))]) ∧ True) ∧ True) ∧ (!!(x.tmod (16 : Int) != (0 : Int) || (decide (x < behind) || (decide (IntKind.u64.wrap (IntKind.u64.wrap x + (16 : Int)) > IntKind.u64.wrap (↑(lenT data) : Int)) || (decide (IntKind.u64.wrap (IntKind.u64.wrap off + IntKind.u64.wrap size) > IntKind.u64.wrap ((4 : Int) * IntKind.u64.wrap (↑nc : Int))) || (bits BinOp.andNot IntKind.u16 perms (133 : Int) != (0 : Int) || (decide (IntKind.i64.wrap typ > types) || false))))))) = true : St }) := by kernel_rfl
theorem right_cy (pages : Int) (stack : Int) (types : Int) (nc : Nat) (nr : Nat) (ns : Nat) (data : List UInt8) (a : Int) (b : Int) (c : Int) (d : Int) (e : Int) (f : Int) (g : Int) (h : Int) (x : Int) (off : Int) (size : Int) (perms : Int) (typ : Int) (behind : Int) : evF Try.prog (baseC 3 selK) noLoop 100 10 27 [imgV pages stack types nc nr ns data, layW a b c d e f g h, relW x true off size perms typ, Value.int IntKind.u32 behind] { n := 67, h := [], lo := [], esc := 0, T := [(1, false)], k := 0, O := True : St } = some (Value.bool (encX (IntKind.u32.wrap (a + off)).toNat (IntKind.u64.wrap (IntKind.u64.wrap (IntKind.u32.wrap (a + off)) + IntKind.u64.wrap size)).toNat), { n := 72, h := [], lo := [], esc := 0, T := [], k := 2, O := ((True ∧ (true = true ∧ 6 < 9000000000000000000) ∧ (Value.slice (some { block := 71, off := 0 }) 6 6 = Value.slice (some { block := 71, off := 0 }) 6 6 ∧ True) ∧ ((true = true ∧ true = true ∧ true = true ∧ true = true ∧ true = true ∧ True ∧ [Value.bool (x.tmod (16 : Int) != (0 : Int)), Value.bool (decide (x < behind)), Value.bool (decide (IntKind.u64.wrap (IntKind.u64.wrap x + (16 : Int)) > IntKind.u64.wrap (↑(lenT data) : Int))), Value.bool (decide (IntKind.u64.wrap (IntKind.u64.wrap off + IntKind.u64.wrap size) > IntKind.u64.wrap ((4 : Int) * IntKind.u64.wrap (↑nc : Int)))), Value.bool (bits BinOp.andNot IntKind.u16 perms (133 : Int) != (0 : Int)), Value.bool (decide (IntKind.i64.wrap typ > types))] = [Value.bool (x.tmod (16 : Int) != (0 : Int)), Value.bool (decide (x < behind)), Value.bool (decide (IntKind.u64.wrap (IntKind.u64.wrap x + (16 : Int)) > IntKind.u64.wrap (↑(lenT data) : Int))), Value.bool (decide (IntKind.u64.wrap (IntKind.u64.wrap off + IntKind.u64.wrap size) > IntKind.u64.wrap ((4 : Int) * IntKind.u64.wrap (↑nc : Int)))), Value.bool (bits BinOp.andNot IntKind.u16 perms (133 : Int) != (0 : Int)), Value.bool (decide (IntKind.i64.wrap typ > types))]) ∧ True) ∧ True) ∧ (!!(x.tmod (16 : Int) != (0 : Int) || (decide (x < behind) || (decide (IntKind.u64.wrap (IntKind.u64.wrap x + (16 : Int)) > IntKind.u64.wrap (↑(lenT data) : Int)) || (decide (IntKind.u64.wrap (IntKind.u64.wrap off + IntKind.u64.wrap size) > IntKind.u64.wrap ((4 : Int) * IntKind.u64.wrap (↑nc : Int))) || (bits BinOp.andNot IntKind.u16 perms (133 : Int) != (0 : Int) || (decide (IntKind.i64.wrap typ > types) || false))))))) = false) ∧ (((0 : Int) ≤ IntKind.u32.wrap (a + off) ∧ IntKind.u32.wrap (a + off) < (4294967296 : Int)) ∧ (0 : Int) ≤ IntKind.u64.wrap (IntKind.u64.wrap (IntKind.u32.wrap (a + off)) + IntKind.u64.wrap size) ∧ IntKind.u64.wrap (IntKind.u64.wrap (IntKind.u32.wrap (a + off)) + IntKind.u64.wrap size) < (18446744073709551616 : Int)) ∧ (Value.int IntKind.u32 (IntKind.u32.wrap (a + off)) = Value.int IntKind.u32 (IntKind.u32.wrap (a + off)) ∧ Value.int IntKind.u64 (IntKind.u64.wrap (IntKind.u64.wrap (IntKind.u32.wrap (a + off)) + IntKind.u64.wrap size)) = Value.int IntKind.u64 (IntKind.u64.wrap (IntKind.u64.wrap (IntKind.u32.wrap (a + off)) + IntKind.u64.wrap size)) ∧ True) ∧ True ∧ True : St }) := by kernel_rfl
def whole (nc len : Nat) (code : Bool) : Nat := bif code then 4 * nc else len
def allowed (code : Bool) : Int := bif code then 133 else 155
def relBad (types : Int) (nc len : Nat) (r : Rl) (behind : Nat) : Bool :=
  decide (r.at_ % 16 ≠ 0) || (decide (r.at_ < behind) || (decide (r.at_ + 16 > len) || (decide (r.off + r.size > whole nc len r.code) || (bits .andNot .u16 (r.perms : Int) (allowed r.code) != 0 || decide ((r.typ : Int) > types)))))
def relRight (types : Int) (nc len a c : Nat) (r : Rl) (behind : Nat) : Bool := !relBad types nc len r behind && encX ((bif r.code then a else c) + r.off) ((bif r.code then a else c) + r.off + r.size)
structure RlOk (r : Rl) : Prop where
  at_ : r.at_ < 4294967296
  off : r.off < 4294967296
  size : r.size < 4294967296
  perms : r.perms < 65536
  typ : r.typ < 65536
def layN (a b c d e f g h : Int) : Value := layW a b c d e f g h
def relV (r : Rl) : Value := relW r.at_ r.code r.off r.size r.perms r.typ
def rightC (pages stack types : Int) (nc nr ns : Nat) (data : List UInt8) (a : Nat) (b : Int) (c : Nat) (d e f g h : Int) (r : Rl) (behind : Nat) : Con :=
  ⟨[imgV pages stack types nc nr ns data, layW a b c d e f g h, relV r, .int .u32 (behind : Int)], 67, [], [], .bool (relRight types nc data.length a c r behind), 67, [], []⟩
theorem right_or (types : Int) (nc len : Nat) (code : Bool) (at_ off size perms typ w : Nat) (pm : Int) (behind : Nat) (hr : RlOk ⟨at_, code, off, size, perms, typ⟩) (hn : nc ≤ 4096) (hl : len ≤ 16384) (hw : w = whole nc len code) (hp : pm = allowed code) :
    ((at_ : Int).tmod 16 != 0 || (decide ((at_ : Int) < (behind : Int)) || (decide (IntKind.u64.wrap (IntKind.u64.wrap (at_ : Int) + 16) > IntKind.u64.wrap (len : Int)) || (decide (IntKind.u64.wrap (IntKind.u64.wrap (off : Int) + IntKind.u64.wrap (size : Int)) > IntKind.u64.wrap (w : Int)) || (bits BinOp.andNot IntKind.u16 (perms : Int) pm != 0 || (decide (IntKind.i64.wrap (typ : Int) > types) || false)))))) = relBad types nc len ⟨at_, code, off, size, perms, typ⟩ behind := by
  subst hw hp
  obtain ⟨h1, h2, h3, h4, h5⟩ := hr
  simp only [] at h1 h2 h3 h4 h5
  have hw : whole nc len code ≤ 16384 := by unfold whole; cases code <;> simp <;> omega
  unfold relBad
  rw [Bool.or_false]
  congr 1
  · rw [show (16 : Int) = ((16 : Nat) : Int) from rfl, ← Int.ofNat_tmod]
    rw [Bool.eq_iff_iff]; simp only [bne_iff_ne, ne_eq, decide_eq_true_eq]; omega
  congr 1
  · rw [Bool.eq_iff_iff]; simp only [decide_eq_true_eq]; omega
  congr 1
  · rw [Bool.eq_iff_iff, IntKind.wrap_u64, IntKind.wrap_u64, IntKind.wrap_u64]; simp only [decide_eq_true_eq]; omega
  congr 1
  · rw [Bool.eq_iff_iff, IntKind.wrap_u64, IntKind.wrap_u64, IntKind.wrap_u64, IntKind.wrap_u64]; simp only [decide_eq_true_eq]; omega
  congr 1
  · rw [wrap_i64 (by omega) (by omega)]
theorem exact_in (a : Nat) (r : Rl) (ha : a ≤ 100000) (ho : r.off + r.size ≤ 16384) : encX (IntKind.u32.wrap ((a : Int) + (r.off : Int))).toNat (IntKind.u64.wrap (IntKind.u64.wrap (IntKind.u32.wrap ((a : Int) + (r.off : Int))) + IntKind.u64.wrap (r.size : Int))).toNat = encX (a + r.off) (a + r.off + r.size) := by
  have e1 : IntKind.u32.wrap ((a : Int) + (r.off : Int)) = ((a + r.off : Nat) : Int) := by rw [IntKind.wrap_u32]; omega
  have e2 : IntKind.u64.wrap (IntKind.u64.wrap ((a + r.off : Nat) : Int) + IntKind.u64.wrap (r.size : Int)) = ((a + r.off + r.size : Nat) : Int) := by rw [IntKind.wrap_u64, IntKind.wrap_u64, IntKind.wrap_u64]; omega
  rw [e1, e2]; rfl
def rightOk (nc len : Nat) (a c : Nat) (r : Rl) : Prop := RlOk r ∧ nc ≤ 4096 ∧ len ≤ 16384 ∧ a ≤ 100000 ∧ c ≤ 100000
theorem flat_any {f : FuncId} {args : List Value} {T : List (Nat × Bool)} {s' : St} {v v' : Value} (h : evF Try.prog (baseC 3 selK) noLoop 100 10 f args ⟨67, [], [], 0, T, 0, True⟩ = some (v, s')) (ha : args.all (okV (fun l => Nat.blt l 67) 3) = true) (hv : v = v') (hO : s'.O) (hf : flat2 v' = true) (hu : isU v' = false) : ConOk Try.prog f 3 ⟨args, 67, [], [], v', 67, [], []⟩ := by
  subst hv
  exact conOk_flat (run_ok i_names (baseC_ok selK_ok) (noLoop_ok _) 10) (by decide) ha h hO hf hu
theorem right_prog (pages stack types : Int) (nc nr ns : Nat) (data : List UInt8) (a : Nat) (b : Int) (c : Nat) (d e f g h : Int) (r : Rl) (behind : Nat) (hq : rightOk nc data.length a c r) : ConOk Try.prog 27 3 (rightC pages stack types nc nr ns data a b c d e f g h r behind) := by
  obtain ⟨hr, hn, hl, ha, hc⟩ := hq
  have hb4 : IntKind.u64.wrap ((4 : Int) * IntKind.u64.wrap (nc : Int)) = IntKind.u64.wrap ((4 * nc : Nat) : Int) := by
    rw [IntKind.wrap_u64, IntKind.wrap_u64, IntKind.wrap_u64]; omega
  obtain ⟨at_, code, off, size, perms, typ⟩ := r
  have hall : ∀ x : Bool, (rightC pages stack types nc nr ns data a b c d e f g h ⟨at_, x, off, size, perms, typ⟩ behind).args.all (okV (fun l => Nat.blt l 67) 3) = true := fun x => by kernel_rfl
  have hw : ∀ x, relBad types nc data.length ⟨at_, x, off, size, perms, typ⟩ behind = false → off + size ≤ 16384 := fun x hx => by
    unfold relBad at hx
    simp only [Bool.or_eq_false_iff, decide_eq_false_iff_not] at hx
    have h1 := hx.2.2.2.1
    have h2 : whole nc data.length x ≤ 16384 := by unfold whole; cases x <;> simp <;> omega
    omega
  have hO6 : (6 : Nat) < 9000000000000000000 := by omega
  cases code
  · have hd := right_dn pages stack types nc nr ns data a b c d e f g h at_ off size perms typ behind
    have hk := right_dy pages stack types nc nr ns data a b c d e f g h at_ off size perms typ behind
    have ho := right_or types nc data.length false at_ off size perms typ data.length 155 behind hr hn hl rfl rfl
    rw [lenT_eq, ho] at hd hk
    cases hb : relBad types nc data.length ⟨at_, false, off, size, perms, typ⟩ behind <;> rw [hb] at hd hk
    · refine flat_any hk (hall false) ?_ ?_ rfl rfl
      · have := exact_in c ⟨at_, false, off, size, perms, typ⟩ hc (hw _ hb)
        simp only [] at this
        rw [this]; simp only [relRight, hb, Bool.not_false, Bool.true_and, cond_false]
      · refine ⟨?_, ?_⟩
        · simp [hO6]
        · simp only [IntKind.wrap_u64, IntKind.wrap_u32]
          refine ⟨⟨by omega, by omega⟩, ?_, trivial, trivial⟩
          simp
    · refine flat_any hd (hall false) ?_ ?_ rfl rfl
      · simp only [relRight, hb, Bool.not_true, Bool.false_and]
      · simp [hO6]
  · have hd := right_cn pages stack types nc nr ns data a b c d e f g h at_ off size perms typ behind
    have hk := right_cy pages stack types nc nr ns data a b c d e f g h at_ off size perms typ behind
    have ho := right_or types nc data.length true at_ off size perms typ (4 * nc) 133 behind hr hn hl rfl rfl
    rw [lenT_eq, hb4, ho] at hd hk
    cases hb : relBad types nc data.length ⟨at_, true, off, size, perms, typ⟩ behind <;> rw [hb] at hd hk
    · refine flat_any hk (hall true) ?_ ?_ rfl rfl
      · have := exact_in a ⟨at_, true, off, size, perms, typ⟩ ha (hw _ hb)
        simp only [] at this
        rw [this]; simp only [relRight, hb, Bool.not_false, Bool.true_and, cond_true]
      · refine ⟨?_, ?_⟩
        · simp [hO6]
        · simp only [IntKind.wrap_u64, IntKind.wrap_u32]
          refine ⟨⟨by omega, by omega⟩, ?_, trivial, trivial⟩
          simp
    · refine flat_any hd (hall true) ?_ ?_ rfl rfl
      · simp only [relRight, hb, Bool.not_true, Bool.false_and]
      · simp [hO6]
end Go.Proofs.Ytdljpnebpoaeiaa
