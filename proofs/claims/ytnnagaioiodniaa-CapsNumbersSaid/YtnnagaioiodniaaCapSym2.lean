/-
  Chapter 04's Of, Bytes, IsNumber and the law's 'sound', by the machine's paths.
-/
import Derived.Test.YtnnagaioiodniaaCapSym
import Derived.Test.YtnnagaioiodniaaSymNum
namespace Go.Proofs.Ytnnagaioiodniaa
open Go.RowKit

theorem byt26 (c : Int) (e : Int) (b : Int) (t : Int) (p : Int) (y : Int) (r : Int) (v : Bool) : Eng.Path Try.prog Eng.noAns 1000 20 26 [Value.agg { toList := [Value.int IntKind.u32 c, Value.int IntKind.u8 e, Value.int IntKind.u16 b, Value.int IntKind.u16 t, Value.int IntKind.u16 p, Value.int IntKind.u16 y, Value.int IntKind.u32 r, Value.bool v] }] [] = some (Value.string { data := { toList := [UInt8.ofNat (IntKind.u8.wrap (c.fdiv (2 ^ 0))).toNat, UInt8.ofNat (IntKind.u8.wrap (c.fdiv (2 ^ 8))).toNat, UInt8.ofNat (IntKind.u8.wrap (c.fdiv (2 ^ 16))).toNat, UInt8.ofNat (IntKind.u8.wrap (c.fdiv (2 ^ 24))).toNat, UInt8.ofNat (IntKind.u8.wrap ((IntKind.u32.wrap e).fdiv (2 ^ 0))).toNat, UInt8.ofNat (IntKind.u8.wrap ((IntKind.u32.wrap b).fdiv (2 ^ 0))).toNat, UInt8.ofNat (IntKind.u8.wrap ((IntKind.u32.wrap b).fdiv (2 ^ 8))).toNat, UInt8.ofNat (IntKind.u8.wrap ((IntKind.u32.wrap t).fdiv (2 ^ 0))).toNat, UInt8.ofNat (IntKind.u8.wrap ((IntKind.u32.wrap t).fdiv (2 ^ 8))).toNat, UInt8.ofNat (IntKind.u8.wrap ((IntKind.u32.wrap p).fdiv (2 ^ 0))).toNat, UInt8.ofNat (IntKind.u8.wrap ((IntKind.u32.wrap p).fdiv (2 ^ 8))).toNat, UInt8.ofNat (IntKind.u8.wrap ((IntKind.u32.wrap y).fdiv (2 ^ 0))).toNat, UInt8.ofNat (IntKind.u8.wrap ((IntKind.u32.wrap y).fdiv (2 ^ 8))).toNat, UInt8.ofNat (IntKind.u8.wrap ((IntKind.u32.wrap ↑(BitVec.ofInt 32 r &&& BitVec.ofInt 32 65535).toNat).fdiv (2 ^ 0))).toNat, UInt8.ofNat (IntKind.u8.wrap ((IntKind.u32.wrap ↑(BitVec.ofInt 32 r &&& BitVec.ofInt 32 65535).toNat).fdiv (2 ^ 8))).toNat, UInt8.ofNat (IntKind.u8.wrap ((IntKind.u32.wrap ↑(BitVec.ofInt 32 (r.fdiv (2 ^ 16)) &&& BitVec.ofInt 32 255).toNat).fdiv (2 ^ 0))).toNat] } }, True) := by kernel_rfl
theorem byt27 (c : Int) (e : Int) (b : Int) (t : Int) (p : Int) (y : Int) (r : Int) (v : Bool) : Eng.Path Try.prog Eng.noAns 1000 20 27 [Value.agg { toList := [Value.int IntKind.u32 c, Value.int IntKind.u8 e, Value.int IntKind.u16 b, Value.int IntKind.u16 t, Value.int IntKind.u16 p, Value.int IntKind.u16 y, Value.int IntKind.u32 r, Value.bool v] }] [] = some (Value.string { data := { toList := [UInt8.ofNat (IntKind.u8.wrap (c.fdiv (2 ^ 0))).toNat, UInt8.ofNat (IntKind.u8.wrap (c.fdiv (2 ^ 8))).toNat, UInt8.ofNat (IntKind.u8.wrap (c.fdiv (2 ^ 16))).toNat, UInt8.ofNat (IntKind.u8.wrap (c.fdiv (2 ^ 24))).toNat, UInt8.ofNat (IntKind.u8.wrap ((IntKind.u32.wrap e).fdiv (2 ^ 0))).toNat, UInt8.ofNat (IntKind.u8.wrap ((IntKind.u32.wrap b).fdiv (2 ^ 0))).toNat, UInt8.ofNat (IntKind.u8.wrap ((IntKind.u32.wrap b).fdiv (2 ^ 8))).toNat, UInt8.ofNat (IntKind.u8.wrap ((IntKind.u32.wrap t).fdiv (2 ^ 0))).toNat, UInt8.ofNat (IntKind.u8.wrap ((IntKind.u32.wrap t).fdiv (2 ^ 8))).toNat, UInt8.ofNat (IntKind.u8.wrap ((IntKind.u32.wrap p).fdiv (2 ^ 0))).toNat, UInt8.ofNat (IntKind.u8.wrap ((IntKind.u32.wrap p).fdiv (2 ^ 8))).toNat, UInt8.ofNat (IntKind.u8.wrap ((IntKind.u32.wrap y).fdiv (2 ^ 0))).toNat, UInt8.ofNat (IntKind.u8.wrap ((IntKind.u32.wrap y).fdiv (2 ^ 8))).toNat, UInt8.ofNat (IntKind.u8.wrap (r.fdiv (2 ^ 0))).toNat, UInt8.ofNat (IntKind.u8.wrap (r.fdiv (2 ^ 8))).toNat, UInt8.ofNat (IntKind.u8.wrap (r.fdiv (2 ^ 16))).toNat] } }, True) := by kernel_rfl
theorem num29 (c : Int) (e : Int) (b : Int) (t : Int) (p : Int) (y : Int) (r : Int) (v : Bool) : Eng.Path Try.prog Eng.noAns 1000 20 29 [Value.agg { toList := [Value.int IntKind.u32 c, Value.int IntKind.u8 e, Value.int IntKind.u16 b, Value.int IntKind.u16 t, Value.int IntKind.u16 p, Value.int IntKind.u16 y, Value.int IntKind.u32 r, Value.bool v] }] [] = some (Value.bool (c == c && (e == 0 && (b == 0 && (t == 0 && (p == 0 && (y == 0 && (r == 0 && (v == false && true)))))))), True) := by kernel_rfl
theorem num30 (c : Int) (e : Int) (b : Int) (t : Int) (p : Int) (y : Int) (r : Int) (v : Bool) : Eng.Path Try.prog Eng.noAns 1000 20 30 [Value.agg { toList := [Value.int IntKind.u32 c, Value.int IntKind.u8 e, Value.int IntKind.u16 b, Value.int IntKind.u16 t, Value.int IntKind.u16 p, Value.int IntKind.u16 y, Value.int IntKind.u32 r, Value.bool v] }] [] = some (Value.bool (c == c && (e == 0 && (b == 0 && (t == 0 && (p == 0 && (y == 0 && (r == 0 && (v == false && true)))))))), True) := by kernel_rfl
theorem snd31 (c : Int) (e : Int) (b : Int) (t : Int) (p : Int) (y : Int) (r : Int) (v : Bool) : Eng.Path Try.prog Eng.noAns 1000 20 31 [Value.agg { toList := [Value.int IntKind.u32 c, Value.int IntKind.u8 e, Value.int IntKind.u16 b, Value.int IntKind.u16 t, Value.int IntKind.u16 p, Value.int IntKind.u16 y, Value.int IntKind.u32 r, Value.bool v] }] [] = some (Value.agg { toList := [Value.int IntKind.u32 c, Value.int IntKind.u8 (e.tmod 22), Value.int IntKind.u16 (b.tmod 4096), Value.int IntKind.u16 (t.tmod 4096), Value.int IntKind.u16 (IntKind.u16.wrap ↑(BitVec.ofInt 16 p &&& BitVec.ofInt 16 255).toNat), Value.int IntKind.u16 (y.tmod 4096), Value.int IntKind.u32 (r.tmod 16777216), Value.bool v] }, True) := by kernel_rfl

theorem of24t (b0 : UInt8) (b1 : UInt8) (b2 : UInt8) (b3 : UInt8) (b4 : UInt8) (b5 : UInt8) (b6 : UInt8) (b7 : UInt8) (b8 : UInt8) (b9 : UInt8) (b10 : UInt8) (b11 : UInt8) (b12 : UInt8) (b13 : UInt8) (b14 : UInt8) (b15 : UInt8) : Eng.Path Try.prog capAns 1000 20 24 [Value.string { data := { toList := [b0, b1, b2, b3, b4, b5, b6, b7, b8, b9, b10, b11, b12, b13, b14, b15] } }, Value.bool true] [] = some (Value.tuple { toList := [Value.agg { toList := [Value.int IntKind.u32 (IntKind.u32.wrap ↑(BitVec.ofInt 32 (IntKind.u32.wrap ↑(BitVec.ofInt 32 (IntKind.u32.wrap ↑(BitVec.ofInt 32 (IntKind.u32.wrap (IntKind.u32.wrap ↑b3.toNat * 2 ^ 24)) ||| BitVec.ofInt 32 (IntKind.u32.wrap (IntKind.u32.wrap ↑b2.toNat * 2 ^ 16))).toNat) ||| BitVec.ofInt 32 (IntKind.u32.wrap (IntKind.u32.wrap ↑b1.toNat * 2 ^ 8))).toNat) ||| BitVec.ofInt 32 (IntKind.u32.wrap ↑b0.toNat)).toNat), Value.int IntKind.u8 (IntKind.u8.wrap (IntKind.u32.wrap ↑(BitVec.ofInt 32 0 ||| BitVec.ofInt 32 (IntKind.u32.wrap ↑b4.toNat)).toNat)), Value.int IntKind.u16 (IntKind.u16.wrap (IntKind.u32.wrap ↑(BitVec.ofInt 32 (IntKind.u32.wrap ↑(BitVec.ofInt 32 0 ||| BitVec.ofInt 32 (IntKind.u32.wrap (IntKind.u32.wrap ↑b6.toNat * 2 ^ 8))).toNat) ||| BitVec.ofInt 32 (IntKind.u32.wrap ↑b5.toNat)).toNat)), Value.int IntKind.u16 (IntKind.u16.wrap (IntKind.u32.wrap ↑(BitVec.ofInt 32 (IntKind.u32.wrap ↑(BitVec.ofInt 32 0 ||| BitVec.ofInt 32 (IntKind.u32.wrap (IntKind.u32.wrap ↑b8.toNat * 2 ^ 8))).toNat) ||| BitVec.ofInt 32 (IntKind.u32.wrap ↑b7.toNat)).toNat)), Value.int IntKind.u16 (IntKind.u16.wrap (IntKind.u32.wrap ↑(BitVec.ofInt 32 (IntKind.u32.wrap ↑(BitVec.ofInt 32 0 ||| BitVec.ofInt 32 (IntKind.u32.wrap (IntKind.u32.wrap ↑b10.toNat * 2 ^ 8))).toNat) ||| BitVec.ofInt 32 (IntKind.u32.wrap ↑b9.toNat)).toNat)), Value.int IntKind.u16 (IntKind.u16.wrap (IntKind.u32.wrap ↑(BitVec.ofInt 32 (IntKind.u32.wrap ↑(BitVec.ofInt 32 0 ||| BitVec.ofInt 32 (IntKind.u32.wrap (IntKind.u32.wrap ↑b12.toNat * 2 ^ 8))).toNat) ||| BitVec.ofInt 32 (IntKind.u32.wrap ↑b11.toNat)).toNat)), Value.int IntKind.u32 (IntKind.u32.wrap ↑(BitVec.ofInt 32 (IntKind.u32.wrap ↑(BitVec.ofInt 32 (IntKind.u32.wrap ↑(BitVec.ofInt 32 0 ||| BitVec.ofInt 32 (IntKind.u32.wrap (IntKind.u32.wrap ↑b14.toNat * 2 ^ 8))).toNat) ||| BitVec.ofInt 32 (IntKind.u32.wrap ↑b13.toNat)).toNat) ||| BitVec.ofInt 32 (IntKind.u32.wrap (IntKind.u32.wrap ↑(BitVec.ofInt 32 0 ||| BitVec.ofInt 32 (IntKind.u32.wrap ↑b15.toNat)).toNat * 2 ^ 16))).toNat), Value.bool (sndP (IntKind.u8.wrap (IntKind.u32.wrap ↑(BitVec.ofInt 32 0 ||| BitVec.ofInt 32 (IntKind.u32.wrap ↑b4.toNat)).toNat)) (IntKind.u16.wrap (IntKind.u32.wrap ↑(BitVec.ofInt 32 (IntKind.u32.wrap ↑(BitVec.ofInt 32 0 ||| BitVec.ofInt 32 (IntKind.u32.wrap (IntKind.u32.wrap ↑b6.toNat * 2 ^ 8))).toNat) ||| BitVec.ofInt 32 (IntKind.u32.wrap ↑b5.toNat)).toNat)) (IntKind.u16.wrap (IntKind.u32.wrap ↑(BitVec.ofInt 32 (IntKind.u32.wrap ↑(BitVec.ofInt 32 0 ||| BitVec.ofInt 32 (IntKind.u32.wrap (IntKind.u32.wrap ↑b8.toNat * 2 ^ 8))).toNat) ||| BitVec.ofInt 32 (IntKind.u32.wrap ↑b7.toNat)).toNat)) (IntKind.u16.wrap (IntKind.u32.wrap ↑(BitVec.ofInt 32 (IntKind.u32.wrap ↑(BitVec.ofInt 32 0 ||| BitVec.ofInt 32 (IntKind.u32.wrap (IntKind.u32.wrap ↑b10.toNat * 2 ^ 8))).toNat) ||| BitVec.ofInt 32 (IntKind.u32.wrap ↑b9.toNat)).toNat)) (IntKind.u16.wrap (IntKind.u32.wrap ↑(BitVec.ofInt 32 (IntKind.u32.wrap ↑(BitVec.ofInt 32 0 ||| BitVec.ofInt 32 (IntKind.u32.wrap (IntKind.u32.wrap ↑b12.toNat * 2 ^ 8))).toNat) ||| BitVec.ofInt 32 (IntKind.u32.wrap ↑b11.toNat)).toNat)) (IntKind.u32.wrap ↑(BitVec.ofInt 32 (IntKind.u32.wrap ↑(BitVec.ofInt 32 (IntKind.u32.wrap ↑(BitVec.ofInt 32 0 ||| BitVec.ofInt 32 (IntKind.u32.wrap (IntKind.u32.wrap ↑b14.toNat * 2 ^ 8))).toNat) ||| BitVec.ofInt 32 (IntKind.u32.wrap ↑b13.toNat)).toNat) ||| BitVec.ofInt 32 (IntKind.u32.wrap (IntKind.u32.wrap ↑(BitVec.ofInt 32 0 ||| BitVec.ofInt 32 (IntKind.u32.wrap ↑b15.toNat)).toNat * 2 ^ 16))).toNat))] }, Value.bool true] }, True ∧ True) := by kernel_rfl
theorem of24f (b0 : UInt8) (b1 : UInt8) (b2 : UInt8) (b3 : UInt8) (b4 : UInt8) (b5 : UInt8) (b6 : UInt8) (b7 : UInt8) (b8 : UInt8) (b9 : UInt8) (b10 : UInt8) (b11 : UInt8) (b12 : UInt8) (b13 : UInt8) (b14 : UInt8) (b15 : UInt8) : Eng.Path Try.prog capAns 1000 20 24 [Value.string { data := { toList := [b0, b1, b2, b3, b4, b5, b6, b7, b8, b9, b10, b11, b12, b13, b14, b15] } }, Value.bool false] [] = some (Value.tuple { toList := [Value.agg { toList := [Value.int IntKind.u32 (IntKind.u32.wrap ↑(BitVec.ofInt 32 (IntKind.u32.wrap ↑(BitVec.ofInt 32 (IntKind.u32.wrap ↑(BitVec.ofInt 32 (IntKind.u32.wrap (IntKind.u32.wrap ↑b3.toNat * 2 ^ 24)) ||| BitVec.ofInt 32 (IntKind.u32.wrap (IntKind.u32.wrap ↑b2.toNat * 2 ^ 16))).toNat) ||| BitVec.ofInt 32 (IntKind.u32.wrap (IntKind.u32.wrap ↑b1.toNat * 2 ^ 8))).toNat) ||| BitVec.ofInt 32 (IntKind.u32.wrap ↑b0.toNat)).toNat), Value.int IntKind.u8 (IntKind.u8.wrap (IntKind.u32.wrap ↑(BitVec.ofInt 32 0 ||| BitVec.ofInt 32 (IntKind.u32.wrap ↑b4.toNat)).toNat)), Value.int IntKind.u16 (IntKind.u16.wrap (IntKind.u32.wrap ↑(BitVec.ofInt 32 (IntKind.u32.wrap ↑(BitVec.ofInt 32 0 ||| BitVec.ofInt 32 (IntKind.u32.wrap (IntKind.u32.wrap ↑b6.toNat * 2 ^ 8))).toNat) ||| BitVec.ofInt 32 (IntKind.u32.wrap ↑b5.toNat)).toNat)), Value.int IntKind.u16 (IntKind.u16.wrap (IntKind.u32.wrap ↑(BitVec.ofInt 32 (IntKind.u32.wrap ↑(BitVec.ofInt 32 0 ||| BitVec.ofInt 32 (IntKind.u32.wrap (IntKind.u32.wrap ↑b8.toNat * 2 ^ 8))).toNat) ||| BitVec.ofInt 32 (IntKind.u32.wrap ↑b7.toNat)).toNat)), Value.int IntKind.u16 (IntKind.u16.wrap (IntKind.u32.wrap ↑(BitVec.ofInt 32 (IntKind.u32.wrap ↑(BitVec.ofInt 32 0 ||| BitVec.ofInt 32 (IntKind.u32.wrap (IntKind.u32.wrap ↑b10.toNat * 2 ^ 8))).toNat) ||| BitVec.ofInt 32 (IntKind.u32.wrap ↑b9.toNat)).toNat)), Value.int IntKind.u16 (IntKind.u16.wrap (IntKind.u32.wrap ↑(BitVec.ofInt 32 (IntKind.u32.wrap ↑(BitVec.ofInt 32 0 ||| BitVec.ofInt 32 (IntKind.u32.wrap (IntKind.u32.wrap ↑b12.toNat * 2 ^ 8))).toNat) ||| BitVec.ofInt 32 (IntKind.u32.wrap ↑b11.toNat)).toNat)), Value.int IntKind.u32 (IntKind.u32.wrap ↑(BitVec.ofInt 32 (IntKind.u32.wrap ↑(BitVec.ofInt 32 (IntKind.u32.wrap ↑(BitVec.ofInt 32 0 ||| BitVec.ofInt 32 (IntKind.u32.wrap (IntKind.u32.wrap ↑b14.toNat * 2 ^ 8))).toNat) ||| BitVec.ofInt 32 (IntKind.u32.wrap ↑b13.toNat)).toNat) ||| BitVec.ofInt 32 (IntKind.u32.wrap (IntKind.u32.wrap ↑(BitVec.ofInt 32 0 ||| BitVec.ofInt 32 (IntKind.u32.wrap ↑b15.toNat)).toNat * 2 ^ 16))).toNat), Value.bool false] }, Value.bool true] }, True) := by kernel_rfl
theorem of24n (l : List UInt8) (v : Bool) : Eng.Path Try.prog capAns 1000 20 24 [Value.string { data := { toList := l } }, Value.bool v] [(0, true)] = some (Value.tuple { toList := [Value.agg { toList := [Value.int IntKind.u32 0, Value.int IntKind.u8 0, Value.int IntKind.u16 0, Value.int IntKind.u16 0, Value.int IntKind.u16 0, Value.int IntKind.u16 0, Value.int IntKind.u32 0, Value.bool false] }, Value.bool false] }, True ∧ ((Eng.lenT l : Int) != 16) = true) := by kernel_rfl
theorem of25t (b0 : UInt8) (b1 : UInt8) (b2 : UInt8) (b3 : UInt8) (b4 : UInt8) (b5 : UInt8) (b6 : UInt8) (b7 : UInt8) (b8 : UInt8) (b9 : UInt8) (b10 : UInt8) (b11 : UInt8) (b12 : UInt8) (b13 : UInt8) (b14 : UInt8) (b15 : UInt8) : Eng.Path Try.prog capAns 1000 20 25 [Value.string { data := { toList := [b0, b1, b2, b3, b4, b5, b6, b7, b8, b9, b10, b11, b12, b13, b14, b15] } }, Value.bool true] [] = some (Value.tuple { toList := [Value.agg { toList := [Value.int IntKind.u32 (IntKind.u32.wrap ↑(BitVec.ofInt 32 (IntKind.u32.wrap ↑(BitVec.ofInt 32 (IntKind.u32.wrap ↑(BitVec.ofInt 32 (IntKind.u32.wrap ↑(BitVec.ofInt 32 0 ||| BitVec.ofInt 32 (IntKind.u32.wrap (IntKind.u32.wrap ↑b0.toNat * 2 ^ 0))).toNat) ||| BitVec.ofInt 32 (IntKind.u32.wrap (IntKind.u32.wrap ↑b1.toNat * 2 ^ 8))).toNat) ||| BitVec.ofInt 32 (IntKind.u32.wrap (IntKind.u32.wrap ↑b2.toNat * 2 ^ 16))).toNat) ||| BitVec.ofInt 32 (IntKind.u32.wrap (IntKind.u32.wrap ↑b3.toNat * 2 ^ 24))).toNat), Value.int IntKind.u8 (IntKind.u8.wrap (IntKind.u32.wrap ↑(BitVec.ofInt 32 0 ||| BitVec.ofInt 32 (IntKind.u32.wrap (IntKind.u32.wrap ↑b4.toNat * 2 ^ 0))).toNat)), Value.int IntKind.u16 (IntKind.u16.wrap (IntKind.u32.wrap ↑(BitVec.ofInt 32 (IntKind.u32.wrap ↑(BitVec.ofInt 32 0 ||| BitVec.ofInt 32 (IntKind.u32.wrap (IntKind.u32.wrap ↑b5.toNat * 2 ^ 0))).toNat) ||| BitVec.ofInt 32 (IntKind.u32.wrap (IntKind.u32.wrap ↑b6.toNat * 2 ^ 8))).toNat)), Value.int IntKind.u16 (IntKind.u16.wrap (IntKind.u32.wrap ↑(BitVec.ofInt 32 (IntKind.u32.wrap ↑(BitVec.ofInt 32 0 ||| BitVec.ofInt 32 (IntKind.u32.wrap (IntKind.u32.wrap ↑b7.toNat * 2 ^ 0))).toNat) ||| BitVec.ofInt 32 (IntKind.u32.wrap (IntKind.u32.wrap ↑b8.toNat * 2 ^ 8))).toNat)), Value.int IntKind.u16 (IntKind.u16.wrap (IntKind.u32.wrap ↑(BitVec.ofInt 32 (IntKind.u32.wrap ↑(BitVec.ofInt 32 0 ||| BitVec.ofInt 32 (IntKind.u32.wrap (IntKind.u32.wrap ↑b9.toNat * 2 ^ 0))).toNat) ||| BitVec.ofInt 32 (IntKind.u32.wrap (IntKind.u32.wrap ↑b10.toNat * 2 ^ 8))).toNat)), Value.int IntKind.u16 (IntKind.u16.wrap (IntKind.u32.wrap ↑(BitVec.ofInt 32 (IntKind.u32.wrap ↑(BitVec.ofInt 32 0 ||| BitVec.ofInt 32 (IntKind.u32.wrap (IntKind.u32.wrap ↑b11.toNat * 2 ^ 0))).toNat) ||| BitVec.ofInt 32 (IntKind.u32.wrap (IntKind.u32.wrap ↑b12.toNat * 2 ^ 8))).toNat)), Value.int IntKind.u32 (IntKind.u32.wrap ↑(BitVec.ofInt 32 (IntKind.u32.wrap ↑(BitVec.ofInt 32 (IntKind.u32.wrap ↑(BitVec.ofInt 32 0 ||| BitVec.ofInt 32 (IntKind.u32.wrap (IntKind.u32.wrap ↑b13.toNat * 2 ^ 0))).toNat) ||| BitVec.ofInt 32 (IntKind.u32.wrap (IntKind.u32.wrap ↑b14.toNat * 2 ^ 8))).toNat) ||| BitVec.ofInt 32 (IntKind.u32.wrap (IntKind.u32.wrap ↑b15.toNat * 2 ^ 16))).toNat), Value.bool (sndR (IntKind.u8.wrap (IntKind.u32.wrap ↑(BitVec.ofInt 32 0 ||| BitVec.ofInt 32 (IntKind.u32.wrap (IntKind.u32.wrap ↑b4.toNat * 2 ^ 0))).toNat)) (IntKind.u16.wrap (IntKind.u32.wrap ↑(BitVec.ofInt 32 (IntKind.u32.wrap ↑(BitVec.ofInt 32 0 ||| BitVec.ofInt 32 (IntKind.u32.wrap (IntKind.u32.wrap ↑b5.toNat * 2 ^ 0))).toNat) ||| BitVec.ofInt 32 (IntKind.u32.wrap (IntKind.u32.wrap ↑b6.toNat * 2 ^ 8))).toNat)) (IntKind.u16.wrap (IntKind.u32.wrap ↑(BitVec.ofInt 32 (IntKind.u32.wrap ↑(BitVec.ofInt 32 0 ||| BitVec.ofInt 32 (IntKind.u32.wrap (IntKind.u32.wrap ↑b7.toNat * 2 ^ 0))).toNat) ||| BitVec.ofInt 32 (IntKind.u32.wrap (IntKind.u32.wrap ↑b8.toNat * 2 ^ 8))).toNat)) (IntKind.u16.wrap (IntKind.u32.wrap ↑(BitVec.ofInt 32 (IntKind.u32.wrap ↑(BitVec.ofInt 32 0 ||| BitVec.ofInt 32 (IntKind.u32.wrap (IntKind.u32.wrap ↑b9.toNat * 2 ^ 0))).toNat) ||| BitVec.ofInt 32 (IntKind.u32.wrap (IntKind.u32.wrap ↑b10.toNat * 2 ^ 8))).toNat)) (IntKind.u16.wrap (IntKind.u32.wrap ↑(BitVec.ofInt 32 (IntKind.u32.wrap ↑(BitVec.ofInt 32 0 ||| BitVec.ofInt 32 (IntKind.u32.wrap (IntKind.u32.wrap ↑b11.toNat * 2 ^ 0))).toNat) ||| BitVec.ofInt 32 (IntKind.u32.wrap (IntKind.u32.wrap ↑b12.toNat * 2 ^ 8))).toNat)) (IntKind.u32.wrap ↑(BitVec.ofInt 32 (IntKind.u32.wrap ↑(BitVec.ofInt 32 (IntKind.u32.wrap ↑(BitVec.ofInt 32 0 ||| BitVec.ofInt 32 (IntKind.u32.wrap (IntKind.u32.wrap ↑b13.toNat * 2 ^ 0))).toNat) ||| BitVec.ofInt 32 (IntKind.u32.wrap (IntKind.u32.wrap ↑b14.toNat * 2 ^ 8))).toNat) ||| BitVec.ofInt 32 (IntKind.u32.wrap (IntKind.u32.wrap ↑b15.toNat * 2 ^ 16))).toNat))] }, Value.bool true] }, True ∧ True) := by kernel_rfl
theorem of25f (b0 : UInt8) (b1 : UInt8) (b2 : UInt8) (b3 : UInt8) (b4 : UInt8) (b5 : UInt8) (b6 : UInt8) (b7 : UInt8) (b8 : UInt8) (b9 : UInt8) (b10 : UInt8) (b11 : UInt8) (b12 : UInt8) (b13 : UInt8) (b14 : UInt8) (b15 : UInt8) : Eng.Path Try.prog capAns 1000 20 25 [Value.string { data := { toList := [b0, b1, b2, b3, b4, b5, b6, b7, b8, b9, b10, b11, b12, b13, b14, b15] } }, Value.bool false] [] = some (Value.tuple { toList := [Value.agg { toList := [Value.int IntKind.u32 (IntKind.u32.wrap ↑(BitVec.ofInt 32 (IntKind.u32.wrap ↑(BitVec.ofInt 32 (IntKind.u32.wrap ↑(BitVec.ofInt 32 (IntKind.u32.wrap ↑(BitVec.ofInt 32 0 ||| BitVec.ofInt 32 (IntKind.u32.wrap (IntKind.u32.wrap ↑b0.toNat * 2 ^ 0))).toNat) ||| BitVec.ofInt 32 (IntKind.u32.wrap (IntKind.u32.wrap ↑b1.toNat * 2 ^ 8))).toNat) ||| BitVec.ofInt 32 (IntKind.u32.wrap (IntKind.u32.wrap ↑b2.toNat * 2 ^ 16))).toNat) ||| BitVec.ofInt 32 (IntKind.u32.wrap (IntKind.u32.wrap ↑b3.toNat * 2 ^ 24))).toNat), Value.int IntKind.u8 (IntKind.u8.wrap (IntKind.u32.wrap ↑(BitVec.ofInt 32 0 ||| BitVec.ofInt 32 (IntKind.u32.wrap (IntKind.u32.wrap ↑b4.toNat * 2 ^ 0))).toNat)), Value.int IntKind.u16 (IntKind.u16.wrap (IntKind.u32.wrap ↑(BitVec.ofInt 32 (IntKind.u32.wrap ↑(BitVec.ofInt 32 0 ||| BitVec.ofInt 32 (IntKind.u32.wrap (IntKind.u32.wrap ↑b5.toNat * 2 ^ 0))).toNat) ||| BitVec.ofInt 32 (IntKind.u32.wrap (IntKind.u32.wrap ↑b6.toNat * 2 ^ 8))).toNat)), Value.int IntKind.u16 (IntKind.u16.wrap (IntKind.u32.wrap ↑(BitVec.ofInt 32 (IntKind.u32.wrap ↑(BitVec.ofInt 32 0 ||| BitVec.ofInt 32 (IntKind.u32.wrap (IntKind.u32.wrap ↑b7.toNat * 2 ^ 0))).toNat) ||| BitVec.ofInt 32 (IntKind.u32.wrap (IntKind.u32.wrap ↑b8.toNat * 2 ^ 8))).toNat)), Value.int IntKind.u16 (IntKind.u16.wrap (IntKind.u32.wrap ↑(BitVec.ofInt 32 (IntKind.u32.wrap ↑(BitVec.ofInt 32 0 ||| BitVec.ofInt 32 (IntKind.u32.wrap (IntKind.u32.wrap ↑b9.toNat * 2 ^ 0))).toNat) ||| BitVec.ofInt 32 (IntKind.u32.wrap (IntKind.u32.wrap ↑b10.toNat * 2 ^ 8))).toNat)), Value.int IntKind.u16 (IntKind.u16.wrap (IntKind.u32.wrap ↑(BitVec.ofInt 32 (IntKind.u32.wrap ↑(BitVec.ofInt 32 0 ||| BitVec.ofInt 32 (IntKind.u32.wrap (IntKind.u32.wrap ↑b11.toNat * 2 ^ 0))).toNat) ||| BitVec.ofInt 32 (IntKind.u32.wrap (IntKind.u32.wrap ↑b12.toNat * 2 ^ 8))).toNat)), Value.int IntKind.u32 (IntKind.u32.wrap ↑(BitVec.ofInt 32 (IntKind.u32.wrap ↑(BitVec.ofInt 32 (IntKind.u32.wrap ↑(BitVec.ofInt 32 0 ||| BitVec.ofInt 32 (IntKind.u32.wrap (IntKind.u32.wrap ↑b13.toNat * 2 ^ 0))).toNat) ||| BitVec.ofInt 32 (IntKind.u32.wrap (IntKind.u32.wrap ↑b14.toNat * 2 ^ 8))).toNat) ||| BitVec.ofInt 32 (IntKind.u32.wrap (IntKind.u32.wrap ↑b15.toNat * 2 ^ 16))).toNat), Value.bool false] }, Value.bool true] }, True) := by kernel_rfl
theorem of25n (l : List UInt8) (v : Bool) : Eng.Path Try.prog capAns 1000 20 25 [Value.string { data := { toList := l } }, Value.bool v] [(0, true)] = some (Value.tuple { toList := [Value.agg { toList := [Value.int IntKind.u32 0, Value.int IntKind.u8 0, Value.int IntKind.u16 0, Value.int IntKind.u16 0, Value.int IntKind.u16 0, Value.int IntKind.u16 0, Value.int IntKind.u32 0, Value.bool false] }, Value.bool false] }, True ∧ ((Eng.lenT l : Int) != 16) = true) := by kernel_rfl


theorem sndP_is (e b t p y r : Int) : sndP e b t p y r = (!decide (IntKind.u32.wrap e ≥ 22) && !decide (IntKind.u32.wrap b ≥ 4096) && !decide (IntKind.u32.wrap t ≥ 4096) && !decide (IntKind.u32.wrap p ≥ 256) && !decide (IntKind.u32.wrap y ≥ 4096) && !decide (r ≥ 16777216)) := rfl
theorem sndR_is (e b t p y r : Int) : sndR e b t p y r = (decide (e ≤ 21) && decide (b < 4096) && decide (t < 4096) && decide (p ≤ 255) && decide (y < 4096) && decide (r < 16777216)) := rfl
theorem snd_e {e : Int} (h : 0 ≤ e ∧ e < 256) : (!decide (IntKind.u32.wrap e ≥ 22)) = decide (e ≤ 21) := by
  rw [IntWalk.u32_in e (by omega), Bool.eq_iff_iff]
  simp only [Bool.not_eq_true', decide_eq_false_iff_not, decide_eq_true_eq]
  omega
theorem snd_b {b : Int} (h : 0 ≤ b ∧ b < 65536) : (!decide (IntKind.u32.wrap b ≥ 4096)) = decide (b < 4096) := by
  rw [IntWalk.u32_in b (by omega), Bool.eq_iff_iff]
  simp only [Bool.not_eq_true', decide_eq_false_iff_not, decide_eq_true_eq]
  omega
theorem snd_p {p : Int} (h : 0 ≤ p ∧ p < 65536) : (!decide (IntKind.u32.wrap p ≥ 256)) = decide (p ≤ 255) := by
  rw [IntWalk.u32_in p (by omega), Bool.eq_iff_iff]
  simp only [Bool.not_eq_true', decide_eq_false_iff_not, decide_eq_true_eq]
  omega
theorem snd_r (r : Int) : (!decide (r ≥ 16777216)) = decide (r < 16777216) := by
  rw [Bool.eq_iff_iff]
  simp only [Bool.not_eq_true', decide_eq_false_iff_not, decide_eq_true_eq]
  omega
theorem snd_eq {e b t p y r : Int} (he : 0 ≤ e ∧ e < 256) (hb : 0 ≤ b ∧ b < 65536) (ht : 0 ≤ t ∧ t < 65536) (hp : 0 ≤ p ∧ p < 65536) (hy : 0 ≤ y ∧ y < 65536) : sndP e b t p y r = sndR e b t p y r := by
  rw [sndP_is, sndR_is, snd_e he, snd_b hb, snd_b ht, snd_p hp, snd_b hy, snd_r r]
theorem two_flat {u v w : Value} (h : Eng.flat2 v = true) (h' : Eng.flat2 w = true) (hu : u ∈ [v, w]) : Eng.flat2 u = true := by
  rcases List.mem_cons.1 hu with rfl | hu
  · exact h
  · exact one_flat h' hu
def ofV (b0 b1 b2 b3 b4 b5 b6 b7 b8 b9 b10 b11 b12 b13 b14 b15 : UInt8) (v : Bool) : Value := .tuple ⟨[.agg ⟨[.int .u32 (num4 b0 b1 b2 b3), .int .u8 (num1 b4), .int .u16 (num2 b5 b6), .int .u16 (num2 b7 b8), .int .u16 (num2 b9 b10), .int .u16 (num2 b11 b12), .int .u32 (num3 b13 b14 b15), .bool (v && sndR (num1 b4) (num2 b5 b6) (num2 b7 b8) (num2 b9 b10) (num2 b11 b12) (num3 b13 b14 b15))]⟩, .bool true]⟩
def ofZ : Value := .tuple ⟨[.agg ⟨[.int .u32 0, .int .u8 0, .int .u16 0, .int .u16 0, .int .u16 0, .int .u16 0, .int .u32 0, .bool false]⟩, .bool false]⟩
theorem snd_num (b4 b5 b6 b7 b8 b9 b10 b11 b12 b13 b14 b15 : UInt8) : sndP (num1 b4) (num2 b5 b6) (num2 b7 b8) (num2 b9 b10) (num2 b11 b12) (num3 b13 b14 b15) = sndR (num1 b4) (num2 b5 b6) (num2 b7 b8) (num2 b9 b10) (num2 b11 b12) (num3 b13 b14 b15) :=
  snd_eq (num1_in _) (num2_in _ _) (num2_in _ _) (num2_in _ _) (num2_in _ _)
theorem of24 (b0 b1 b2 b3 b4 b5 b6 b7 b8 b9 b10 b11 b12 b13 b14 b15 : UInt8) (v : Bool) : Eng.Pure Try.prog 24 [.string ⟨⟨[b0, b1, b2, b3, b4, b5, b6, b7, b8, b9, b10, b11, b12, b13, b14, b15]⟩⟩, .bool v] (ofV b0 b1 b2 b3 b4 b5 b6 b7 b8 b9 b10 b11 b12 b13 b14 b15 v) := by
  cases v
  · have h := Eng.path_pure sym_names capAns_ok (of24f b0 b1 b2 b3 b4 b5 b6 b7 b8 b9 b10 b11 b12 b13 b14 b15) trivial (fun _ hu => two_flat rfl rfl hu) rfl
    simp only [getP4] at h
    simp only [getP1, getP2, getP3] at h
    unfold ofV
    rw [Bool.false_and]
    exact h
  · have h := Eng.path_pure sym_names capAns_ok (of24t b0 b1 b2 b3 b4 b5 b6 b7 b8 b9 b10 b11 b12 b13 b14 b15) ⟨trivial, trivial⟩ (fun _ hu => two_flat rfl rfl hu) rfl
    simp only [getP4] at h
    simp only [getP1, getP2, getP3] at h
    rw [snd_num] at h
    unfold ofV
    rw [Bool.true_and]
    exact h
theorem of24_not {l : List UInt8} (hl : l.length ≠ 16) (v : Bool) : Eng.Pure Try.prog 24 [.string ⟨⟨l⟩⟩, .bool v] ofZ :=
  Eng.path_pure sym_names capAns_ok (of24n l v) ⟨trivial, by rw [Eng.lenT_eq]; simp; omega⟩ (fun _ hu => two_flat rfl rfl hu) rfl
theorem of25 (b0 b1 b2 b3 b4 b5 b6 b7 b8 b9 b10 b11 b12 b13 b14 b15 : UInt8) (v : Bool) : Eng.Pure Try.prog 25 [.string ⟨⟨[b0, b1, b2, b3, b4, b5, b6, b7, b8, b9, b10, b11, b12, b13, b14, b15]⟩⟩, .bool v] (ofV b0 b1 b2 b3 b4 b5 b6 b7 b8 b9 b10 b11 b12 b13 b14 b15 v) := by
  cases v
  · have h := Eng.path_pure sym_names capAns_ok (of25f b0 b1 b2 b3 b4 b5 b6 b7 b8 b9 b10 b11 b12 b13 b14 b15) trivial (fun _ hu => two_flat rfl rfl hu) rfl
    simp only [getR4] at h
    simp only [getR1, getR2, getR3] at h
    unfold ofV
    rw [Bool.false_and]
    exact h
  · have h := Eng.path_pure sym_names capAns_ok (of25t b0 b1 b2 b3 b4 b5 b6 b7 b8 b9 b10 b11 b12 b13 b14 b15) ⟨trivial, trivial⟩ (fun _ hu => two_flat rfl rfl hu) rfl
    simp only [getR4] at h
    simp only [getR1, getR2, getR3] at h
    unfold ofV
    rw [Bool.true_and]
    exact h
theorem of25_not {l : List UInt8} (hl : l.length ≠ 16) (v : Bool) : Eng.Pure Try.prog 25 [.string ⟨⟨l⟩⟩, .bool v] ofZ :=
  Eng.path_pure sym_names capAns_ok (of25n l v) ⟨trivial, by rw [Eng.lenT_eq]; simp; omega⟩ (fun _ hu => two_flat rfl rfl hu) rfl
theorem and32 (x : Nat) (hx : x < 4294967296) : (BitVec.ofInt 32 (x : Int) &&& BitVec.ofInt 32 65535).toNat = x % 65536 ∧ (BitVec.ofInt 32 (x : Int) &&& BitVec.ofInt 32 255).toNat = x % 256 := by
  have h1 : (65535 : Int) = ((65535 : Nat) : Int) := rfl
  have h2 : (255 : Int) = ((255 : Nat) : Int) := rfl
  rw [h1, h2, BitVec.toNat_and, BitVec.toNat_and, BitVec.ofInt_natCast, BitVec.ofInt_natCast, BitVec.ofInt_natCast, BitVec.toNat_ofNat, BitVec.toNat_ofNat, BitVec.toNat_ofNat, Nat.mod_eq_of_lt (show x < 2 ^ 32 by omega)]
  exact ⟨Nat.and_two_pow_sub_one_eq_mod x 16, Nat.and_two_pow_sub_one_eq_mod x 8⟩
theorem restP {r : Int} (hr : 0 ≤ r ∧ r < 4294967296) : UInt8.ofNat (IntKind.u8.wrap ((IntKind.u32.wrap ↑(BitVec.ofInt 32 r &&& BitVec.ofInt 32 65535).toNat).fdiv (2 ^ 0))).toNat = byteK r 0 ∧
    UInt8.ofNat (IntKind.u8.wrap ((IntKind.u32.wrap ↑(BitVec.ofInt 32 r &&& BitVec.ofInt 32 65535).toNat).fdiv (2 ^ 8))).toNat = byteK r 8 ∧
    UInt8.ofNat (IntKind.u8.wrap ((IntKind.u32.wrap ↑(BitVec.ofInt 32 (r.fdiv (2 ^ 16)) &&& BitVec.ofInt 32 255).toNat).fdiv (2 ^ 0))).toNat = byteK r 16 := by
  obtain ⟨n, rfl⟩ := Int.eq_ofNat_of_zero_le hr.1
  have hn : n < 4294967296 := by omega
  have h1 : ((n : Int)).fdiv (2 ^ 16) = ((n / 65536 : Nat) : Int) := by
    rw [show (2 : Int) ^ 16 = ((65536 : Nat) : Int) by simp, Int.fdiv_eq_ediv_of_nonneg _ (Int.natCast_nonneg _)]
    simp
  rw [h1, (and32 n hn).1, (and32 (n / 65536) (by omega)).2, w32n _ (by omega), w32n _ (by omega), byteK_eq _ (by omega), byteK_eq _ (by omega), byteK_eq _ (by omega)]
  unfold byteK
  refine ⟨?_, ?_, ?_⟩ <;> apply UInt8.toNat_inj.1 <;> simp only [UInt8.toNat_ofNat', Int.toNat_natCast] <;> omega
theorem bytes26 {c e b t p y r : Int} (v : Bool) (hc : 0 ≤ c ∧ c < 4294967296) (he : 0 ≤ e ∧ e < 256) (hb : 0 ≤ b ∧ b < 65536) (ht : 0 ≤ t ∧ t < 65536) (hp : 0 ≤ p ∧ p < 65536) (hy : 0 ≤ y ∧ y < 65536) (hr : 0 ≤ r ∧ r < 4294967296) : Eng.Pure Try.prog 26 [.agg ⟨[Value.int IntKind.u32 c, Value.int IntKind.u8 e, Value.int IntKind.u16 b, Value.int IntKind.u16 t, Value.int IntKind.u16 p, Value.int IntKind.u16 y, Value.int IntKind.u32 r, Value.bool v]⟩] (.string ⟨⟨[byteK c 0, byteK c 8, byteK c 16, byteK c 24, byteK e 0, byteK b 0, byteK b 8, byteK t 0, byteK t 8, byteK p 0, byteK p 8, byteK y 0, byteK y 8, byteK r 0, byteK r 8, byteK r 16]⟩⟩) := by
  have h := Eng.path_pure sym_names (Eng.noAns_ok _) (byt26 c e b t p y r v) trivial (fun _ hu => one_flat rfl hu) rfl
  rw [IntWalk.u32_in e (by omega), IntWalk.u32_in b (by omega), IntWalk.u32_in t (by omega), IntWalk.u32_in p (by omega), IntWalk.u32_in y (by omega), (restP hr).1, (restP hr).2.1, (restP hr).2.2,
    byteK_eq c hc.1, byteK_eq c hc.1, byteK_eq c hc.1, byteK_eq c hc.1, byteK_eq e he.1, byteK_eq b hb.1, byteK_eq b hb.1, byteK_eq t ht.1, byteK_eq t ht.1, byteK_eq p hp.1, byteK_eq p hp.1, byteK_eq y hy.1, byteK_eq y hy.1] at h
  exact h
theorem bytes27 {c e b t p y r : Int} (v : Bool) (hc : 0 ≤ c ∧ c < 4294967296) (he : 0 ≤ e ∧ e < 256) (hb : 0 ≤ b ∧ b < 65536) (ht : 0 ≤ t ∧ t < 65536) (hp : 0 ≤ p ∧ p < 65536) (hy : 0 ≤ y ∧ y < 65536) (hr : 0 ≤ r ∧ r < 4294967296) : Eng.Pure Try.prog 27 [.agg ⟨[Value.int IntKind.u32 c, Value.int IntKind.u8 e, Value.int IntKind.u16 b, Value.int IntKind.u16 t, Value.int IntKind.u16 p, Value.int IntKind.u16 y, Value.int IntKind.u32 r, Value.bool v]⟩] (.string ⟨⟨[byteK c 0, byteK c 8, byteK c 16, byteK c 24, byteK e 0, byteK b 0, byteK b 8, byteK t 0, byteK t 8, byteK p 0, byteK p 8, byteK y 0, byteK y 8, byteK r 0, byteK r 8, byteK r 16]⟩⟩) := by
  have h := Eng.path_pure sym_names (Eng.noAns_ok _) (byt27 c e b t p y r v) trivial (fun _ hu => one_flat rfl hu) rfl
  rw [IntWalk.u32_in e (by omega), IntWalk.u32_in b (by omega), IntWalk.u32_in t (by omega), IntWalk.u32_in p (by omega), IntWalk.u32_in y (by omega),
    byteK_eq c hc.1, byteK_eq c hc.1, byteK_eq c hc.1, byteK_eq c hc.1, byteK_eq e he.1, byteK_eq b hb.1, byteK_eq b hb.1, byteK_eq t ht.1, byteK_eq t ht.1, byteK_eq p hp.1, byteK_eq p hp.1, byteK_eq y hy.1, byteK_eq y hy.1, byteK_eq r hr.1, byteK_eq r hr.1, byteK_eq r hr.1] at h
  exact h
def isNum (c e b t p y r : Int) (v : Bool) : Bool := c == c && (e == 0 && (b == 0 && (t == 0 && (p == 0 && (y == 0 && (r == 0 && (v == false && true)))))))
theorem isNum29 (c e b t p y r : Int) (v : Bool) : Eng.Pure Try.prog 29 [.agg ⟨[Value.int IntKind.u32 c, Value.int IntKind.u8 e, Value.int IntKind.u16 b, Value.int IntKind.u16 t, Value.int IntKind.u16 p, Value.int IntKind.u16 y, Value.int IntKind.u32 r, Value.bool v]⟩] (.bool (isNum c e b t p y r v)) :=
  Eng.path_pure sym_names (Eng.noAns_ok _) (num29 c e b t p y r v) trivial (fun _ hu => one_flat rfl hu) rfl
theorem isNum30 (c e b t p y r : Int) (v : Bool) : Eng.Pure Try.prog 30 [.agg ⟨[Value.int IntKind.u32 c, Value.int IntKind.u8 e, Value.int IntKind.u16 b, Value.int IntKind.u16 t, Value.int IntKind.u16 p, Value.int IntKind.u16 y, Value.int IntKind.u32 r, Value.bool v]⟩] (.bool (isNum c e b t p y r v)) :=
  Eng.path_pure sym_names (Eng.noAns_ok _) (num30 c e b t p y r v) trivial (fun _ hu => one_flat rfl hu) rfl
theorem and16 (x : Nat) (hx : x < 65536) : (BitVec.ofInt 16 (x : Int) &&& BitVec.ofInt 16 255).toNat = x % 256 := by
  have h2 : (255 : Int) = ((255 : Nat) : Int) := rfl
  rw [h2, BitVec.toNat_and, BitVec.ofInt_natCast, BitVec.ofInt_natCast, BitVec.toNat_ofNat, BitVec.toNat_ofNat, Nat.mod_eq_of_lt (show x < 2 ^ 16 by omega)]
  exact Nat.and_two_pow_sub_one_eq_mod x 8
theorem sound31 {c e b t p y r : Int} (v : Bool) (he : 0 ≤ e ∧ e < 256) (hb : 0 ≤ b ∧ b < 65536) (ht : 0 ≤ t ∧ t < 65536) (hp : 0 ≤ p ∧ p < 65536) (hy : 0 ≤ y ∧ y < 65536) (hr : 0 ≤ r ∧ r < 4294967296) :
    Eng.Pure Try.prog 31 [.agg ⟨[Value.int IntKind.u32 c, Value.int IntKind.u8 e, Value.int IntKind.u16 b, Value.int IntKind.u16 t, Value.int IntKind.u16 p, Value.int IntKind.u16 y, Value.int IntKind.u32 r, Value.bool v]⟩] (.agg ⟨[.int .u32 c, .int .u8 (e % 22), .int .u16 (b % 4096), .int .u16 (t % 4096), .int .u16 (p % 256), .int .u16 (y % 4096), .int .u32 (r % 16777216), .bool v]⟩) := by
  have h := Eng.path_pure sym_names (Eng.noAns_ok _) (snd31 c e b t p y r v) trivial (fun _ hu => one_flat rfl hu) rfl
  have h1 : IntKind.u16.wrap ↑(BitVec.ofInt 16 p &&& BitVec.ofInt 16 255).toNat = p % 256 := by
    obtain ⟨n, rfl⟩ := Int.eq_ofNat_of_zero_le hp.1
    rw [and16 n (by omega), w16n _ (by omega)]
    omega
  rw [h1, Int.tmod_eq_emod_of_nonneg he.1, Int.tmod_eq_emod_of_nonneg hb.1, Int.tmod_eq_emod_of_nonneg ht.1, Int.tmod_eq_emod_of_nonneg hy.1, Int.tmod_eq_emod_of_nonneg hr.1] at h
  exact h

/-- What is known of all of these, as a base; 'z': is the text of another length? -/
def capAns2 (z : Bool) : Eng.Ans := fun f args =>
  bif Nat.beq f 24 || Nat.beq f 25 then match z, args with
    | false, [.string ⟨⟨[b0, b1, b2, b3, b4, b5, b6, b7, b8, b9, b10, b11, b12, b13, b14, b15]⟩⟩, .bool v] => some (ofV b0 b1 b2 b3 b4 b5 b6 b7 b8 b9 b10 b11 b12 b13 b14 b15 v, True)
    | true, [.string ⟨⟨l⟩⟩, .bool _] => some (ofZ, l.length ≠ 16)
    | _, _ => none
  else bif Nat.beq f 26 || Nat.beq f 27 then match args with
    | [.agg ⟨[Value.int IntKind.u32 c, Value.int IntKind.u8 e, Value.int IntKind.u16 b, Value.int IntKind.u16 t, Value.int IntKind.u16 p, Value.int IntKind.u16 y, Value.int IntKind.u32 r, Value.bool _]⟩] => some (.string ⟨⟨[byteK c 0, byteK c 8, byteK c 16, byteK c 24, byteK e 0, byteK b 0, byteK b 8, byteK t 0, byteK t 8, byteK p 0, byteK p 8, byteK y 0, byteK y 8, byteK r 0, byteK r 8, byteK r 16]⟩⟩, (0 ≤ c ∧ c < 4294967296) ∧ (0 ≤ e ∧ e < 256) ∧ (0 ≤ b ∧ b < 65536) ∧ (0 ≤ t ∧ t < 65536) ∧ (0 ≤ p ∧ p < 65536) ∧ (0 ≤ y ∧ y < 65536) ∧ (0 ≤ r ∧ r < 4294967296))
    | _ => none
  else bif Nat.beq f 29 || Nat.beq f 30 then match args with
    | [.agg ⟨[Value.int IntKind.u32 c, Value.int IntKind.u8 e, Value.int IntKind.u16 b, Value.int IntKind.u16 t, Value.int IntKind.u16 p, Value.int IntKind.u16 y, Value.int IntKind.u32 r, Value.bool v]⟩] => some (.bool (isNum c e b t p y r v), True)
    | _ => none
  else bif Nat.beq f 31 then match args with
    | [.agg ⟨[Value.int IntKind.u32 c, Value.int IntKind.u8 e, Value.int IntKind.u16 b, Value.int IntKind.u16 t, Value.int IntKind.u16 p, Value.int IntKind.u16 y, Value.int IntKind.u32 r, Value.bool v]⟩] => some (.agg ⟨[.int .u32 c, .int .u8 (e % 22), .int .u16 (b % 4096), .int .u16 (t % 4096), .int .u16 (p % 256), .int .u16 (y % 4096), .int .u32 (r % 16777216), .bool v]⟩, (0 ≤ c ∧ c < 4294967296) ∧ (0 ≤ e ∧ e < 256) ∧ (0 ≤ b ∧ b < 65536) ∧ (0 ≤ t ∧ t < 65536) ∧ (0 ≤ p ∧ p < 65536) ∧ (0 ≤ y ∧ y < 65536) ∧ (0 ≤ r ∧ r < 4294967296))
    | _ => none
  else capAns f args
theorem or_cases {f m n : Nat} (h : (Nat.beq f m || Nat.beq f n) = true) : f = m ∨ f = n := by
  rcases Bool.or_eq_true_iff.1 h with h | h
  · exact .inl (Nat.eq_of_beq_eq_true h)
  · exact .inr (Nat.eq_of_beq_eq_true h)
theorem capAns2_ok (z : Bool) : Eng.AnsOk Try.prog (capAns2 z) := by
  intro f args w q h hq
  unfold capAns2 at h
  cases h1 : (Nat.beq f 24 || Nat.beq f 25)
  · rw [h1] at h
    cases h2 : (Nat.beq f 26 || Nat.beq f 27)
    · rw [h2] at h
      cases h3 : (Nat.beq f 29 || Nat.beq f 30)
      · rw [h3] at h
        cases h4 : Nat.beq f 31
        · rw [h4] at h
          exact capAns_ok f args w q h hq
        · rw [h4] at h
          simp only [cond_true, cond_false] at h
          split at h
          · cases h
            obtain ⟨hc, he, hb, ht, hp, hy, hr⟩ := hq
            rw [Nat.eq_of_beq_eq_true h4]
            exact sound31 _ he hb ht hp hy hr
          · cases h
      · rw [h3] at h
        simp only [cond_true, cond_false] at h
        split at h
        · cases h
          rcases or_cases h3 with rfl | rfl
          · exact isNum29 ..
          · exact isNum30 ..
        · cases h
    · rw [h2] at h
      simp only [cond_true, cond_false] at h
      split at h
      · cases h
        obtain ⟨hc, he, hb, ht, hp, hy, hr⟩ := hq
        rcases or_cases h2 with rfl | rfl
        · exact bytes26 _ hc he hb ht hp hy hr
        · exact bytes27 _ hc he hb ht hp hy hr
      · cases h
  · rw [h1] at h
    simp only [cond_true] at h
    split at h
    · cases h
      rcases or_cases h1 with rfl | rfl
      · exact of24 ..
      · exact of25 ..
    · cases h
      rcases or_cases h1 with rfl | rfl
      · exact of24_not hq _
      · exact of25_not hq _
    · cases h
end Go.Proofs.Ytnnagaioiodniaa
