/-
  Chapter 21: where all of an image lies.
-/
import Derived.Test.YtdljpnebpoaeiaaImgH
namespace Go.Proofs.Ytdljpnebpoaeiaa
open Go.RowKit
open Sy

def imK (T : List (Nat × Bool)) : St := ⟨67, [], [], 0, T, 0, True⟩
theorem layout_big (pages : Int) (stack : Int) (types : Int) (nc : Nat) (nr : Nat) (ns : Nat) (data : List UInt8) : evF Try.prog (baseC 3 selJ) noLoop 100 10 26 [imgV pages stack types nc nr ns data] { n := 67, h := [], lo := [], esc := 0, T := [(0, true)], k := 0, O := True : St } = some (Value.tuple { toList := [Value.agg { toList := [Value.int IntKind.u32 (0 : Int), Value.int IntKind.u32 (0 : Int), Value.int IntKind.u32 (0 : Int), Value.int IntKind.u32 (0 : Int), Value.int IntKind.u32 (0 : Int), Value.int IntKind.u32 (0 : Int), Value.int IntKind.u32 (0 : Int), Value.int IntKind.u32 (0 : Int)] }, Value.bool false] }, { n := 77, h := [], lo := [], esc := 0, T := [], k := 1, O := ((True ∧ ((0 : Int) ≤ IntKind.i64.wrap ((4 : Int) * (↑nc : Int)) ∧ IntKind.i64.wrap ((4 : Int) * (↑nc : Int)) ≤ (100000 : Int)) ∧ (Value.int IntKind.i64 (IntKind.i64.wrap ((4 : Int) * (↑nc : Int))) = Value.int IntKind.i64 (IntKind.i64.wrap ((4 : Int) * (↑nc : Int))) ∧ True) ∧ True ∧ True) ∧ ((0 : Int) ≤ (↑(lenT data) : Int) ∧ (↑(lenT data) : Int) ≤ (100000 : Int)) ∧ (Value.int IntKind.i64 (↑(lenT data) : Int) = Value.int IntKind.i64 (↑(lenT data) : Int) ∧ True) ∧ True ∧ True) ∧ decide (IntKind.u32.wrap (IntKind.u32.wrap (bits BinOp.andNot IntKind.u32 (IntKind.u32.wrap (IntKind.u32.wrap (IntKind.u32.wrap (bits BinOp.andNot IntKind.u32 (IntKind.u32.wrap (IntKind.u32.wrap (IntKind.u32.wrap ((0 : Int) + (↑(r256 (IntKind.i64.wrap ((4 : Int) * (↑nc : Int))).toNat) : Int)) + (256 : Int)) - (1 : Int))) (255 : Int) + (↑(r256 (↑(lenT data) : Int).toNat) : Int)) + (256 : Int)) - (1 : Int))) (255 : Int) + IntKind.u32.wrap (IntKind.i64.wrap (stack * (↑ns : Int)))) + (256 : Int)) > IntKind.u32.wrap (IntKind.u32.wrap pages * (256 : Int))) = true : St }) := by kernel_rfl
theorem layout_ok (pages : Int) (stack : Int) (types : Int) (nc : Nat) (nr : Nat) (ns : Nat) (data : List UInt8) : evF Try.prog (baseC 3 selJ) noLoop 100 10 26 [imgV pages stack types nc nr ns data] { n := 67, h := [], lo := [], esc := 0, T := [(0, false)], k := 0, O := True : St } = some (Value.tuple { toList := [Value.agg { toList := [Value.int IntKind.u32 (0 : Int), Value.int IntKind.u32 (↑(r256 (IntKind.i64.wrap ((4 : Int) * (↑nc : Int))).toNat) : Int), Value.int IntKind.u32 (bits BinOp.andNot IntKind.u32 (IntKind.u32.wrap (IntKind.u32.wrap (IntKind.u32.wrap ((0 : Int) + (↑(r256 (IntKind.i64.wrap ((4 : Int) * (↑nc : Int))).toNat) : Int)) + (256 : Int)) - (1 : Int))) (255 : Int)), Value.int IntKind.u32 (↑(r256 (↑(lenT data) : Int).toNat) : Int), Value.int IntKind.u32 (bits BinOp.andNot IntKind.u32 (IntKind.u32.wrap (IntKind.u32.wrap (IntKind.u32.wrap (bits BinOp.andNot IntKind.u32 (IntKind.u32.wrap (IntKind.u32.wrap (IntKind.u32.wrap ((0 : Int) + (↑(r256 (IntKind.i64.wrap ((4 : Int) * (↑nc : Int))).toNat) : Int)) + (256 : Int)) - (1 : Int))) (255 : Int) + (↑(r256 (↑(lenT data) : Int).toNat) : Int)) + (256 : Int)) - (1 : Int))) (255 : Int)), Value.int IntKind.u32 (IntKind.u32.wrap (IntKind.i64.wrap (stack * (↑ns : Int)))), Value.int IntKind.u32 (bits BinOp.andNot IntKind.u32 (IntKind.u32.wrap (IntKind.u32.wrap (IntKind.u32.wrap (bits BinOp.andNot IntKind.u32 (IntKind.u32.wrap (IntKind.u32.wrap (IntKind.u32.wrap (bits BinOp.andNot IntKind.u32 (IntKind.u32.wrap (IntKind.u32.wrap (IntKind.u32.wrap ((0 : Int) + (↑(r256 (IntKind.i64.wrap ((4 : Int) * (↑nc : Int))).toNat) : Int)) + (256 : Int)) - (1 : Int))) (255 : Int) + (↑(r256 (↑(lenT data) : Int).toNat) : Int)) + (256 : Int)) - (1 : Int))) (255 : Int) + IntKind.u32.wrap (IntKind.i64.wrap (stack * (↑ns : Int)))) + (256 : Int)) - (1 : Int))) (255 : Int)), Value.int IntKind.u32 (IntKind.u32.wrap (IntKind.u32.wrap (IntKind.u32.wrap pages * (256 : Int)) - IntKind.u32.wrap (bits BinOp.andNot IntKind.u32 (IntKind.u32.wrap (IntKind.u32.wrap (IntKind.u32.wrap (bits BinOp.andNot IntKind.u32 (IntKind.u32.wrap (IntKind.u32.wrap (IntKind.u32.wrap ((0 : Int) + (↑(r256 (IntKind.i64.wrap ((4 : Int) * (↑nc : Int))).toNat) : Int)) + (256 : Int)) - (1 : Int))) (255 : Int) + (↑(r256 (↑(lenT data) : Int).toNat) : Int)) + (256 : Int)) - (1 : Int))) (255 : Int) + IntKind.u32.wrap (IntKind.i64.wrap (stack * (↑ns : Int))))))] }, Value.bool true] }, { n := 79, h := [], lo := [], esc := 0, T := [], k := 1, O := ((True ∧ ((0 : Int) ≤ IntKind.i64.wrap ((4 : Int) * (↑nc : Int)) ∧ IntKind.i64.wrap ((4 : Int) * (↑nc : Int)) ≤ (100000 : Int)) ∧ (Value.int IntKind.i64 (IntKind.i64.wrap ((4 : Int) * (↑nc : Int))) = Value.int IntKind.i64 (IntKind.i64.wrap ((4 : Int) * (↑nc : Int))) ∧ True) ∧ True ∧ True) ∧ ((0 : Int) ≤ (↑(lenT data) : Int) ∧ (↑(lenT data) : Int) ≤ (100000 : Int)) ∧ (Value.int IntKind.i64 (↑(lenT data) : Int) = Value.int IntKind.i64 (↑(lenT data) : Int) ∧ True) ∧ True ∧ True) ∧ decide (IntKind.u32.wrap (IntKind.u32.wrap (bits BinOp.andNot IntKind.u32 (IntKind.u32.wrap (IntKind.u32.wrap (IntKind.u32.wrap (bits BinOp.andNot IntKind.u32 (IntKind.u32.wrap (IntKind.u32.wrap (IntKind.u32.wrap ((0 : Int) + (↑(r256 (IntKind.i64.wrap ((4 : Int) * (↑nc : Int))).toNat) : Int)) + (256 : Int)) - (1 : Int))) (255 : Int) + (↑(r256 (↑(lenT data) : Int).toNat) : Int)) + (256 : Int)) - (1 : Int))) (255 : Int) + IntKind.u32.wrap (IntKind.i64.wrap (stack * (↑ns : Int)))) + (256 : Int)) > IntKind.u32.wrap (IntKind.u32.wrap pages * (256 : Int))) = false : St }) := by kernel_rfl
theorem rlayout_big (pages : Int) (stack : Int) (types : Int) (nc : Nat) (nr : Nat) (ns : Nat) (data : List UInt8) : evF Try.prog (baseC 3 selJ) noLoop 100 10 29 [imgV pages stack types nc nr ns data] { n := 67, h := [], lo := [], esc := 0, T := [(0, true)], k := 0, O := True : St } = some (Value.tuple { toList := [Value.agg { toList := [Value.int IntKind.u32 (0 : Int), Value.int IntKind.u32 (0 : Int), Value.int IntKind.u32 (0 : Int), Value.int IntKind.u32 (0 : Int), Value.int IntKind.u32 (0 : Int), Value.int IntKind.u32 (0 : Int), Value.int IntKind.u32 (0 : Int), Value.int IntKind.u32 (0 : Int)] }, Value.bool false] }, { n := 70, h := [], lo := [], esc := 0, T := [], k := 1, O := ((True ∧ ((0 : Int) ≤ IntKind.u32.wrap ((4 : Int) * IntKind.u32.wrap (↑nc : Int)) ∧ IntKind.u32.wrap ((4 : Int) * IntKind.u32.wrap (↑nc : Int)) ≤ (100000 : Int)) ∧ (Value.int IntKind.u32 (IntKind.u32.wrap ((4 : Int) * IntKind.u32.wrap (↑nc : Int))) = Value.int IntKind.u32 (IntKind.u32.wrap ((4 : Int) * IntKind.u32.wrap (↑nc : Int))) ∧ True) ∧ True ∧ True) ∧ ((0 : Int) ≤ IntKind.u32.wrap (↑(lenT data) : Int) ∧ IntKind.u32.wrap (↑(lenT data) : Int) ≤ (100000 : Int)) ∧ (Value.int IntKind.u32 (IntKind.u32.wrap (↑(lenT data) : Int)) = Value.int IntKind.u32 (IntKind.u32.wrap (↑(lenT data) : Int)) ∧ True) ∧ True ∧ True) ∧ decide (IntKind.u32.wrap (IntKind.u32.wrap (IntKind.u32.wrap (IntKind.u32.wrap (IntKind.u32.wrap ((IntKind.u32.wrap (IntKind.u32.wrap ((↑(r256 (IntKind.u32.wrap ((4 : Int) * IntKind.u32.wrap (↑nc : Int))).toNat) : Int) + (256 : Int)) - (1 : Int))).tdiv (256 : Int)) * (256 : Int)) + (↑(r256 (IntKind.u32.wrap (↑(lenT data) : Int)).toNat) : Int)) + IntKind.u32.wrap (IntKind.i64.wrap (stack * (↑ns : Int)))) + (256 : Int)) > IntKind.u32.wrap (IntKind.i64.wrap (pages * (256 : Int)))) = true : St }) := by kernel_rfl
theorem rlayout_ok (pages : Int) (stack : Int) (types : Int) (nc : Nat) (nr : Nat) (ns : Nat) (data : List UInt8) : evF Try.prog (baseC 3 selJ) noLoop 100 10 29 [imgV pages stack types nc nr ns data] { n := 67, h := [], lo := [], esc := 0, T := [(0, false)], k := 0, O := True : St } = some (Value.tuple { toList := [Value.agg { toList := [Value.int IntKind.u32 (0 : Int), Value.int IntKind.u32 (↑(r256 (IntKind.u32.wrap ((4 : Int) * IntKind.u32.wrap (↑nc : Int))).toNat) : Int), Value.int IntKind.u32 (IntKind.u32.wrap (IntKind.u32.wrap ((IntKind.u32.wrap (IntKind.u32.wrap ((↑(r256 (IntKind.u32.wrap ((4 : Int) * IntKind.u32.wrap (↑nc : Int))).toNat) : Int) + (256 : Int)) - (1 : Int))).tdiv (256 : Int)) * (256 : Int))), Value.int IntKind.u32 (↑(r256 (IntKind.u32.wrap (↑(lenT data) : Int)).toNat) : Int), Value.int IntKind.u32 (IntKind.u32.wrap (IntKind.u32.wrap (IntKind.u32.wrap ((IntKind.u32.wrap (IntKind.u32.wrap ((↑(r256 (IntKind.u32.wrap ((4 : Int) * IntKind.u32.wrap (↑nc : Int))).toNat) : Int) + (256 : Int)) - (1 : Int))).tdiv (256 : Int)) * (256 : Int)) + (↑(r256 (IntKind.u32.wrap (↑(lenT data) : Int)).toNat) : Int))), Value.int IntKind.u32 (IntKind.u32.wrap (IntKind.i64.wrap (stack * (↑ns : Int)))), Value.int IntKind.u32 (IntKind.u32.wrap (IntKind.u32.wrap (IntKind.u32.wrap (IntKind.u32.wrap ((IntKind.u32.wrap (IntKind.u32.wrap ((↑(r256 (IntKind.u32.wrap ((4 : Int) * IntKind.u32.wrap (↑nc : Int))).toNat) : Int) + (256 : Int)) - (1 : Int))).tdiv (256 : Int)) * (256 : Int)) + (↑(r256 (IntKind.u32.wrap (↑(lenT data) : Int)).toNat) : Int)) + IntKind.u32.wrap (IntKind.i64.wrap (stack * (↑ns : Int))))), Value.int IntKind.u32 (IntKind.u32.wrap (IntKind.u32.wrap (IntKind.i64.wrap (pages * (256 : Int))) - IntKind.u32.wrap (IntKind.u32.wrap (IntKind.u32.wrap (IntKind.u32.wrap ((IntKind.u32.wrap (IntKind.u32.wrap ((↑(r256 (IntKind.u32.wrap ((4 : Int) * IntKind.u32.wrap (↑nc : Int))).toNat) : Int) + (256 : Int)) - (1 : Int))).tdiv (256 : Int)) * (256 : Int)) + (↑(r256 (IntKind.u32.wrap (↑(lenT data) : Int)).toNat) : Int)) + IntKind.u32.wrap (IntKind.i64.wrap (stack * (↑ns : Int))))))] }, Value.bool true] }, { n := 70, h := [], lo := [], esc := 0, T := [], k := 1, O := ((True ∧ ((0 : Int) ≤ IntKind.u32.wrap ((4 : Int) * IntKind.u32.wrap (↑nc : Int)) ∧ IntKind.u32.wrap ((4 : Int) * IntKind.u32.wrap (↑nc : Int)) ≤ (100000 : Int)) ∧ (Value.int IntKind.u32 (IntKind.u32.wrap ((4 : Int) * IntKind.u32.wrap (↑nc : Int))) = Value.int IntKind.u32 (IntKind.u32.wrap ((4 : Int) * IntKind.u32.wrap (↑nc : Int))) ∧ True) ∧ True ∧ True) ∧ ((0 : Int) ≤ IntKind.u32.wrap (↑(lenT data) : Int) ∧ IntKind.u32.wrap (↑(lenT data) : Int) ≤ (100000 : Int)) ∧ (Value.int IntKind.u32 (IntKind.u32.wrap (↑(lenT data) : Int)) = Value.int IntKind.u32 (IntKind.u32.wrap (↑(lenT data) : Int)) ∧ True) ∧ True ∧ True) ∧ decide (IntKind.u32.wrap (IntKind.u32.wrap (IntKind.u32.wrap (IntKind.u32.wrap (IntKind.u32.wrap ((IntKind.u32.wrap (IntKind.u32.wrap ((↑(r256 (IntKind.u32.wrap ((4 : Int) * IntKind.u32.wrap (↑nc : Int))).toNat) : Int) + (256 : Int)) - (1 : Int))).tdiv (256 : Int)) * (256 : Int)) + (↑(r256 (IntKind.u32.wrap (↑(lenT data) : Int)).toNat) : Int)) + IntKind.u32.wrap (IntKind.i64.wrap (stack * (↑ns : Int)))) + (256 : Int)) > IntKind.u32.wrap (IntKind.i64.wrap (pages * (256 : Int)))) = false : St }) := by kernel_rfl

section
variable {P : Program} {call : CallK} {f : FuncId}
/-- A contract out of one run, of a function that leaves the heap and answers no address. -/
theorem conOk_flat (hcall : SoundCall P call) {args : List Value} {n : Nat} {T : List (Nat × Bool)} {v : Value} {s' : St} (hng : NG ≤ n) (ha : args.all (okV (fun l => Nat.blt l n) 3) = true) (h : call f args ⟨n, [], [], 0, T, 0, True⟩ = some (v, s')) (hO : s'.O) (hv : flat2 v = true) (hu : isU v = false) : ConOk P f 3 ⟨args, n, [], [], v, n, [], []⟩ := by
  refine conOk_run hcall (T := T) (v := v) (s' := s') (p := fun _ => false) (σ := id) ⟨hng, Nat.le_refl _, trivial, rfl, rfl, rfl, ha, okV_flat2 hv 1, fun x hx => by cases hx⟩ h hO ?_
  exact ⟨fun _ _ => rfl, trivial, rfl, trivial, ⟨okV_flat2 hv 1, (rnV_id 3 v).symm⟩, hu, trivial, rfl, bnd_flat2 _ hv, fun x hx => by cases hx⟩
end
def layFrom (stack : Int) (nc ns len : Nat) : Nat := r256 (4 * nc) + r256 len + stack.toNat * ns
def layBig (pages stack : Int) (nc ns len : Nat) : Bool := decide (layFrom stack nc ns len + 256 > pages.toNat * 256)
def pk (b : Bool) (x : Nat) : Int := bif b then 0 else (x : Int)
def layA (pages stack : Int) (nc ns len : Nat) : Value :=
  .agg ⟨[.int .u32 0, .int .u32 (pk (layBig pages stack nc ns len) (r256 (4 * nc))), .int .u32 (pk (layBig pages stack nc ns len) (r256 (4 * nc))), .int .u32 (pk (layBig pages stack nc ns len) (r256 len)), .int .u32 (pk (layBig pages stack nc ns len) (r256 (4 * nc) + r256 len)), .int .u32 (pk (layBig pages stack nc ns len) (stack.toNat * ns)), .int .u32 (pk (layBig pages stack nc ns len) (layFrom stack nc ns len)), .int .u32 (pk (layBig pages stack nc ns len) (pages.toNat * 256 - layFrom stack nc ns len))]⟩
def layR (pages stack : Int) (nc ns len : Nat) : Value := .tuple ⟨[layA pages stack nc ns len, .bool (!layBig pages stack nc ns len)]⟩
def layOk (pages stack : Int) (nc ns len : Nat) : Prop := 0 ≤ pages ∧ pages ≤ 1024 ∧ 0 ≤ stack ∧ stack ≤ 4096 ∧ stack % 256 = 0 ∧ nc ≤ 4096 ∧ ns ≤ 4 ∧ len ≤ 16384
def layC (pages stack types : Int) (nc nr ns : Nat) (data : List UInt8) : Con := ⟨[imgV pages stack types nc nr ns data], 67, [], [], layR pages stack nc ns data.length, 67, [], []⟩
theorem alg256 (x : Nat) (h : x % 256 = 0) (hx : x ≤ 10000000) : bits .andNot .u32 (IntKind.u32.wrap (IntKind.u32.wrap ((x : Int) + 256) - 1)) 255 = (x : Int) := by
  have e1 : IntKind.u32.wrap (IntKind.u32.wrap ((x : Int) + 256) - 1) = ((x + 255 : Nat) : Int) := by
    rw [IntKind.wrap_u32, IntKind.wrap_u32]; omega
  have e2 := struck (x + 255) 8 (by omega) (by omega)
  rw [show (((2 ^ 8 - 1 : Nat)) : Int) = 255 from rfl] at e2
  rw [e1, e2]
  omega
theorem ralg256 (x : Nat) (h : x % 256 = 0) (hx : x ≤ 10000000) : IntKind.u32.wrap ((IntKind.u32.wrap (IntKind.u32.wrap ((x : Int) + 256) - 1)).tdiv 256 * 256) = (x : Int) := by
  have e1 : IntKind.u32.wrap (IntKind.u32.wrap ((x : Int) + 256) - 1) = ((x + 255 : Nat) : Int) := by
    rw [IntKind.wrap_u32, IntKind.wrap_u32]; omega
  rw [e1, show ((256 : Int)) = ((256 : Nat) : Int) from rfl, ← Int.ofNat_tdiv, IntKind.wrap_u32]
  omega
theorem ralg256' (x : Nat) (h : x % 256 = 0) (hx : x ≤ 10000000) : IntKind.u32.wrap (IntKind.u32.wrap ((IntKind.u32.wrap (IntKind.u32.wrap ((x : Int) + 256) - 1)).tdiv 256) * 256) = (x : Int) := by
  have e1 : IntKind.u32.wrap (IntKind.u32.wrap ((x : Int) + 256) - 1) = ((x + 255 : Nat) : Int) := by
    rw [IntKind.wrap_u32, IntKind.wrap_u32]; omega
  rw [e1, show ((256 : Int)) = ((256 : Nat) : Int) from rfl, ← Int.ofNat_tdiv, IntKind.wrap_u32, IntKind.wrap_u32]
  omega
theorem r256_mod (n : Nat) : r256 n % 256 = 0 := by unfold r256; omega
theorem r256_le (n : Nat) : r256 n ≤ n + 255 := by unfold r256; omega
theorem u32_nat (x : Nat) (h : x < 4294967296) : IntKind.u32.wrap (x : Int) = (x : Int) := by rw [IntKind.wrap_u32]; omega
theorem u32_add (x y : Nat) (h : x + y < 4294967296) : IntKind.u32.wrap ((x : Int) + (y : Int)) = ((x + y : Nat) : Int) := by rw [IntKind.wrap_u32]; omega
theorem layC_any {f : FuncId} {pages stack types : Int} {nc nr ns : Nat} {data : List UInt8} {T : List (Nat × Bool)} {s' : St} {v : Value} (h : evF Try.prog (baseC 3 selJ) noLoop 100 10 f [imgV pages stack types nc nr ns data] ⟨67, [], [], 0, T, 0, True⟩ = some (v, s')) (hv : v = layR pages stack nc ns data.length) (hO : s'.O) : ConOk Try.prog f 3 (layC pages stack types nc nr ns data) := by
  subst hv
  refine conOk_flat (run_ok i_names (baseC_ok selJ_ok) (noLoop_ok _) 10) (by decide) ?_ h hO rfl rfl
  kernel_rfl
theorem stack_ns {s ns : Nat} (h1 : s ≤ 4096) (h2 : ns ≤ 4) : s * ns ≤ 16384 := Nat.mul_le_mul h1 h2
theorem lay_prog (pages stack types : Int) (nc nr ns : Nat) (data : List UInt8) (h : layOk pages stack nc ns data.length) : ConOk Try.prog 26 3 (layC pages stack types nc nr ns data) := by
  obtain ⟨h1, h2, h3, h4, h5, h6, h7, h8⟩ := h
  obtain ⟨p, rfl⟩ := Int.eq_ofNat_of_zero_le h1
  obtain ⟨s, rfl⟩ := Int.eq_ofNat_of_zero_le h3
  have hs := stack_ns (s := s) (ns := ns) (by omega) h7
  have q1 := r256_le (4 * nc)
  have q2 := r256_le data.length
  have m1 := r256_mod (4 * nc)
  have m2 := r256_mod data.length
  have m3 : s * ns % 256 = 0 := by rw [Nat.mul_mod, show s % 256 = 0 by omega]; simp
  have e1 : IntKind.i64.wrap ((4 : Int) * (nc : Int)) = ((4 * nc : Nat) : Int) := by rw [wrap_i64 (by omega) (by omega)]; omega
  have e2 : IntKind.u32.wrap ((0 : Int) + ((r256 (4 * nc) : Nat) : Int)) = ((r256 (4 * nc) : Nat) : Int) := by rw [IntKind.wrap_u32]; omega
  have e3 : IntKind.i64.wrap ((s : Int) * (ns : Int)) = ((s * ns : Nat) : Int) := by rw [Int.ofNat_mul_ofNat, wrap_i64 (by omega) (by omega)]
  have e4 : IntKind.u32.wrap (IntKind.u32.wrap (p : Int) * (256 : Int)) = ((p * 256 : Nat) : Int) := by rw [IntKind.wrap_u32, IntKind.wrap_u32]; omega
  have hd := layout_big (p : Int) (s : Int) types nc nr ns data
  have hk := layout_ok (p : Int) (s : Int) types nc nr ns data
  simp only [e1, Int.toNat_natCast, lenT_eq, e2, alg256 _ m1 (by omega), u32_add (r256 (4 * nc)) (r256 data.length) (by omega), alg256 (r256 (4 * nc) + r256 data.length) (by omega) (by omega), e3, u32_nat (s * ns) (by omega), u32_add (r256 (4 * nc) + r256 data.length) (s * ns) (by omega), alg256 (r256 (4 * nc) + r256 data.length + s * ns) (by omega) (by omega), e4] at hd hk
  cases hb : layBig (p : Int) (s : Int) nc ns data.length
  · have hb' : r256 (4 * nc) + r256 data.length + s * ns + 256 ≤ p * 256 := by
      unfold layBig layFrom at hb; simp only [Int.toNat_natCast, decide_eq_false_iff_not] at hb; omega
    have e5 : IntKind.u32.wrap (((p * 256 : Nat) : Int) - ((r256 (4 * nc) + r256 data.length + s * ns : Nat) : Int)) = ((p * 256 - (r256 (4 * nc) + r256 data.length + s * ns) : Nat) : Int) := by rw [IntKind.wrap_u32]; omega
    rw [e5] at hk
    refine layC_any (T := [(0, false)]) hk ?_ ?_
    · unfold layR layA
      rw [hb]
      rfl
    · refine ⟨⟨⟨trivial, ⟨by omega, by omega⟩, ⟨trivial, trivial⟩, trivial, trivial⟩, ⟨by omega, by omega⟩, ⟨trivial, trivial⟩, trivial, trivial⟩, ?_⟩
      rw [IntKind.wrap_u32]
      simp only [decide_eq_false_iff_not]; omega
  · have hb' : ¬ (r256 (4 * nc) + r256 data.length + s * ns + 256 ≤ p * 256) := by
      unfold layBig layFrom at hb; simp only [Int.toNat_natCast, decide_eq_true_eq] at hb; omega
    refine layC_any (T := [(0, true)]) hd ?_ ?_
    · unfold layR layA
      rw [hb]
      rfl
    · refine ⟨⟨⟨trivial, ⟨by omega, by omega⟩, ⟨trivial, trivial⟩, trivial, trivial⟩, ⟨by omega, by omega⟩, ⟨trivial, trivial⟩, trivial, trivial⟩, ?_⟩
      rw [IntKind.wrap_u32]
      simp only [decide_eq_true_eq]; omega
theorem lay_ref (pages stack types : Int) (nc nr ns : Nat) (data : List UInt8) (h : layOk pages stack nc ns data.length) : ConOk Try.prog 29 3 (layC pages stack types nc nr ns data) := by
  obtain ⟨h1, h2, h3, h4, h5, h6, h7, h8⟩ := h
  obtain ⟨p, rfl⟩ := Int.eq_ofNat_of_zero_le h1
  obtain ⟨s, rfl⟩ := Int.eq_ofNat_of_zero_le h3
  have hs := stack_ns (s := s) (ns := ns) (by omega) h7
  have q1 := r256_le (4 * nc)
  have q2 := r256_le data.length
  have m1 := r256_mod (4 * nc)
  have m2 := r256_mod data.length
  have m3 : s * ns % 256 = 0 := by rw [Nat.mul_mod, show s % 256 = 0 by omega]; simp
  have e1 : IntKind.u32.wrap ((4 : Int) * IntKind.u32.wrap (nc : Int)) = ((4 * nc : Nat) : Int) := by rw [IntKind.wrap_u32, IntKind.wrap_u32]; omega
  have e2 := u32_nat data.length (by omega)
  have e3 : IntKind.i64.wrap ((s : Int) * (ns : Int)) = ((s * ns : Nat) : Int) := by rw [Int.ofNat_mul_ofNat, wrap_i64 (by omega) (by omega)]
  have e4 : IntKind.u32.wrap (IntKind.i64.wrap ((p : Int) * (256 : Int))) = ((p * 256 : Nat) : Int) := by rw [wrap_i64 (by omega) (by omega), IntKind.wrap_u32]; omega
  have hd := rlayout_big (p : Int) (s : Int) types nc nr ns data
  have hk := rlayout_ok (p : Int) (s : Int) types nc nr ns data
  simp only [e1, Int.toNat_natCast, lenT_eq, e2, ralg256' _ m1 (by omega), u32_add (r256 (4 * nc)) (r256 data.length) (by omega), e3, u32_nat (s * ns) (by omega), u32_add (r256 (4 * nc) + r256 data.length) (s * ns) (by omega), e4] at hd hk
  cases hb : layBig (p : Int) (s : Int) nc ns data.length
  · have hb' : r256 (4 * nc) + r256 data.length + s * ns + 256 ≤ p * 256 := by
      unfold layBig layFrom at hb; simp only [Int.toNat_natCast, decide_eq_false_iff_not] at hb; omega
    have e5 : IntKind.u32.wrap (((p * 256 : Nat) : Int) - ((r256 (4 * nc) + r256 data.length + s * ns : Nat) : Int)) = ((p * 256 - (r256 (4 * nc) + r256 data.length + s * ns) : Nat) : Int) := by rw [IntKind.wrap_u32]; omega
    rw [e5] at hk
    refine layC_any (T := [(0, false)]) hk ?_ ?_
    · unfold layR layA
      rw [hb]
      rfl
    · refine ⟨⟨⟨trivial, ⟨by omega, by omega⟩, ⟨trivial, trivial⟩, trivial, trivial⟩, ⟨by omega, by omega⟩, ⟨trivial, trivial⟩, trivial, trivial⟩, ?_⟩
      rw [IntKind.wrap_u32]
      simp only [decide_eq_false_iff_not]; omega
  · have hb' : ¬ (r256 (4 * nc) + r256 data.length + s * ns + 256 ≤ p * 256) := by
      unfold layBig layFrom at hb; simp only [Int.toNat_natCast, decide_eq_true_eq] at hb; omega
    refine layC_any (T := [(0, true)]) hd ?_ ?_
    · unfold layR layA
      rw [hb]
      rfl
    · refine ⟨⟨⟨trivial, ⟨by omega, by omega⟩, ⟨trivial, trivial⟩, trivial, trivial⟩, ⟨by omega, by omega⟩, ⟨trivial, trivial⟩, trivial, trivial⟩, ?_⟩
      rw [IntKind.wrap_u32]
      simp only [decide_eq_true_eq]; omega
def selLay : SelC := fun f args _ =>
  match args with
  | [.agg ⟨[.int _ pages, .int _ stack, .int _ types, .slice (some a) nc _, .string ⟨⟨data⟩⟩, .slice (some b) nr _, .slice (some c) ns _]⟩] =>
    bif Nat.beq f 26 || Nat.beq f 29 then some (layC pages stack types nc nr ns data, [a.block, b.block, c.block], layOk pages stack nc ns data.length) else none
  | _ => none
theorem selLay_ok : SelOk Try.prog 3 selLay := by
  intro f args s c ρ q h hq
  unfold selLay at h
  split at h
  · obtain ⟨h2, h⟩ := bif_some h
    cases h
    simp only [Bool.or_eq_true] at h2
    rcases h2 with h2 | h2
    · have h2 := Nat.eq_of_beq_eq_true h2
      subst h2
      exact lay_prog _ _ _ _ _ _ _ hq
    · have h2 := Nat.eq_of_beq_eq_true h2
      subst h2
      exact lay_ref _ _ _ _ _ _ _ hq
  · cases h
def selK : SelC := selOr selLay selJ
theorem selK_ok : SelOk Try.prog 3 selK := selOr_ok selLay_ok selJ_ok
end Go.Proofs.Ytdljpnebpoaeiaa
