/-
  ImageLays: part 5 of the proof.
-/
import Derived.Below
import Derived.ChangeOld
import Derived.ChangeSame
import Derived.ChangeSlices
import Derived.Deep.Fields
import Derived.Deep.Slices
import Derived.Lib.SmallJoins
import Derived.OpenShut
import Derived.ProofKit
import Derived.ShutString
import Derived.Test.YtdljpnebpoaeiaaQImageLaysD
import Derived.Test.YtdljpnebpoaeiaaRows
import Derived.WalkKit
namespace Go.Proofs.Ytdljpnebpoaeiaa
set_option linter.unusedVariables false
set_option linter.unusedSimpArgs false
open Go.RowKit
open Sy
def imD (pages stack types : Int) (nc : Nat) (data : List UInt8) (rs : List Rl) (starts : List Nat) (v : Value) : Con := ⟨[imgV pages stack types nc rs.length starts.length data], 67, imH rs starts, [], v, 67, [], []⟩
def selLayAt (rs : List Rl) (starts : List Nat) : SelC := fun f args _ =>
  match args with
  | [.agg ⟨[.int _ pages, .int _ stack, .int _ types, .slice (some i) nc _, .string ⟨⟨data⟩⟩, .slice (some j) _ _, .slice (some k) _ _]⟩] =>
    bif Nat.beq f 10 then some (imD pages stack types nc data rs starts (layRes pages stack types nc data rs starts), [i.block, j.block, k.block], ImOk rs starts)
    else bif Nat.beq f 15 then some (imD pages stack types nc data rs starts (chkV pages stack types nc data rs starts), [i.block, j.block, k.block], ImOk rs starts) else none
  | _ => none
theorem selLayAt_ok (rs : List Rl) (starts : List Nat) : SelOk Try.prog 3 (selLayAt rs starts) := by
  intro f args s c ρ q h hq
  unfold selLayAt at h
  split at h
  · rename_i pages _ stack _ types i nc _ data j _ _ k _ _
    cases h1 : Nat.beq f 10 <;> rw [h1] at h
    · simp only [cond_false] at h
      obtain ⟨h2, h⟩ := bif_some h
      have h2 := Nat.eq_of_beq_eq_true h2
      subst h2
      cases h
      exact (chk_con _ _ _ _ _ rs starts hq).drop
    · have h1 := Nat.eq_of_beq_eq_true h1
      subst h1
      cases h
      exact (lay_con _ _ _ _ _ rs starts hq).drop
  · cases h
theorem own_nnn (pages : Int) (stack : Int) (types : Int) (data : List UInt8) (cs : List Nat) (rs : List Rl) (starts : List Nat) : evF Try.prog noBase noLoop 100 10 9 [Value.agg { toList := [Value.int IntKind.i64 pages, Value.int IntKind.i64 stack, Value.int IntKind.i64 types, Value.slice none 0 0, Value.string { data := { toList := data : Array UInt8 } : ByteArray }, Value.slice none 0 0, Value.slice none 0 0] }] { n := 67, h := [], lo := [(64, 0), (65, 0), (66, 0)], esc := 0, T := [], k := 0, O := True : St } = some (Value.agg { toList := [Value.int IntKind.i64 pages, Value.int IntKind.i64 stack, Value.int IntKind.i64 types, Value.slice (some { block := 70, off := 0 }) 0 9223372036854775878, Value.string { data := { toList := List.take ((if (20000 : Int) < (↑(lenT data) : Int) then (20000 : Int) else (↑(lenT data) : Int)).toNat - 0) (List.drop 0 data) : Array UInt8 } : ByteArray }, Value.slice (some { block := 72, off := 0 }) 0 9223372036854775880, Value.slice (some { block := 74, off := 0 }) 0 9223372036854775882] }, { n := 75, h := [(74, { rw := true, op := some (74, 1), cells := [], it := none : Sy.Blk }), (72, { rw := true, op := some (72, 6), cells := [], it := none : Sy.Blk }), (70, { rw := true, op := some (70, 1), cells := [], it := none : Sy.Blk }), (68, { rw := true, op := none, cells := [Value.int IntKind.i64 pages, Value.int IntKind.i64 stack, Value.int IntKind.i64 types, Value.slice (some { block := 70, off := 0 }) 0 9223372036854775878, Value.string { data := { toList := List.take ((if (20000 : Int) < (↑(lenT data) : Int) then (20000 : Int) else (↑(lenT data) : Int)).toNat - 0) (List.drop 0 data) : Array UInt8 } : ByteArray }, Value.slice (some { block := 72, off := 0 }) 0 9223372036854775880, Value.slice (some { block := 74, off := 0 }) 0 9223372036854775882], it := none : Sy.Blk }), (67, { rw := true, op := none, cells := [Value.int IntKind.i64 pages, Value.int IntKind.i64 stack, Value.int IntKind.i64 types, Value.slice (some { block := 70, off := 0 }) 0 9223372036854775878, Value.string { data := { toList := List.take ((if (20000 : Int) < (↑(lenT data) : Int) then (20000 : Int) else (↑(lenT data) : Int)).toNat - 0) (List.drop 0 data) : Array UInt8 } : ByteArray }, Value.slice (some { block := 72, off := 0 }) 0 9223372036854775880, Value.slice (some { block := 74, off := 0 }) 0 9223372036854775882], it := none : Sy.Blk })], lo := [(74, 0), (72, 0), (70, 0), (64, 0), (65, 0), (66, 0)], esc := 0, T := [], k := 0, O := bif decide ((0 : Int) ≤ if (20000 : Int) < (↑(lenT data) : Int) then (20000 : Int) else (↑(lenT data) : Int)) && decide ((if (20000 : Int) < (↑(lenT data) : Int) then (20000 : Int) else (↑(lenT data) : Int)) ≤ (↑(lenT data) : Int)) then True else False : St }) := by kernel_rfl
theorem own_nne (pages : Int) (stack : Int) (types : Int) (data : List UInt8) (cs : List Nat) (rs : List Rl) (starts : List Nat) : evF Try.prog noBase noLoop 100 10 9 [Value.agg { toList := [Value.int IntKind.i64 pages, Value.int IntKind.i64 stack, Value.int IntKind.i64 types, Value.slice none 0 0, Value.string { data := { toList := data : Array UInt8 } : ByteArray }, Value.slice none 0 0, Value.slice (some { block := 66, off := 0, spot := some 66 }) 0 (big + 66)] }] { n := 67, h := [], lo := [(64, 0), (65, 0), (66, 0)], esc := 0, T := [], k := 0, O := True : St } = some (Value.agg { toList := [Value.int IntKind.i64 pages, Value.int IntKind.i64 stack, Value.int IntKind.i64 types, Value.slice (some { block := 70, off := 0 }) 0 9223372036854775878, Value.string { data := { toList := List.take ((if (20000 : Int) < (↑(lenT data) : Int) then (20000 : Int) else (↑(lenT data) : Int)).toNat - 0) (List.drop 0 data) : Array UInt8 } : ByteArray }, Value.slice (some { block := 72, off := 0 }) 0 9223372036854775880, Value.slice (some { block := 74, off := 0 }) 0 9223372036854775882] }, { n := 75, h := [(74, { rw := true, op := some (74, 1), cells := [], it := none : Sy.Blk }), (72, { rw := true, op := some (72, 6), cells := [], it := none : Sy.Blk }), (70, { rw := true, op := some (70, 1), cells := [], it := none : Sy.Blk }), (68, { rw := true, op := none, cells := [Value.int IntKind.i64 pages, Value.int IntKind.i64 stack, Value.int IntKind.i64 types, Value.slice (some { block := 70, off := 0 }) 0 9223372036854775878, Value.string { data := { toList := List.take ((if (20000 : Int) < (↑(lenT data) : Int) then (20000 : Int) else (↑(lenT data) : Int)).toNat - 0) (List.drop 0 data) : Array UInt8 } : ByteArray }, Value.slice (some { block := 72, off := 0 }) 0 9223372036854775880, Value.slice (some { block := 74, off := 0 }) 0 9223372036854775882], it := none : Sy.Blk }), (67, { rw := true, op := none, cells := [Value.int IntKind.i64 pages, Value.int IntKind.i64 stack, Value.int IntKind.i64 types, Value.slice (some { block := 70, off := 0 }) 0 9223372036854775878, Value.string { data := { toList := List.take ((if (20000 : Int) < (↑(lenT data) : Int) then (20000 : Int) else (↑(lenT data) : Int)).toNat - 0) (List.drop 0 data) : Array UInt8 } : ByteArray }, Value.slice (some { block := 72, off := 0 }) 0 9223372036854775880, Value.slice (some { block := 74, off := 0 }) 0 9223372036854775882], it := none : Sy.Blk })], lo := [(74, 0), (72, 0), (70, 0), (64, 0), (65, 0), (66, 0)], esc := 0, T := [], k := 0, O := bif decide ((0 : Int) ≤ if (20000 : Int) < (↑(lenT data) : Int) then (20000 : Int) else (↑(lenT data) : Int)) && decide ((if (20000 : Int) < (↑(lenT data) : Int) then (20000 : Int) else (↑(lenT data) : Int)) ≤ (↑(lenT data) : Int)) then True else False : St }) := by kernel_rfl
theorem own_nnl (pages : Int) (stack : Int) (types : Int) (data : List UInt8) (cs : List Nat) (rs : List Rl) (starts : List Nat) : evF Try.prog noBase noLoop 100 10 9 [Value.agg { toList := [Value.int IntKind.i64 pages, Value.int IntKind.i64 stack, Value.int IntKind.i64 types, Value.slice none 0 0, Value.string { data := { toList := data : Array UInt8 } : ByteArray }, Value.slice none 0 0, Value.slice (some { block := 66, off := 0 }) starts.length (big + 66)] }] { n := 67, h := [(66, { rw := false, op := some (0, 0), cells := u32s starts, it := none : Sy.Blk })], lo := [(64, 0), (65, 0), (66, starts.length)], esc := 0, T := [], k := 0, O := True : St } = some (Value.agg { toList := [Value.int IntKind.i64 pages, Value.int IntKind.i64 stack, Value.int IntKind.i64 types, Value.slice (some { block := 70, off := 0 }) 0 9223372036854775878, Value.string { data := { toList := List.take ((if (20000 : Int) < (↑(lenT data) : Int) then (20000 : Int) else (↑(lenT data) : Int)).toNat - 0) (List.drop 0 data) : Array UInt8 } : ByteArray }, Value.slice (some { block := 72, off := 0 }) 0 9223372036854775880, Value.slice (some { block := 74, off := 0 }) (0 + (if (6 : Int) < (↑starts.length : Int) then (6 : Int) else (↑starts.length : Int)).toNat) 9223372036854775882] }, { n := 75, h := [(74, { rw := true, op := some (74, 1), cells := List.take ((if (6 : Int) < (↑starts.length : Int) then (6 : Int) else (↑starts.length : Int)).toNat * 1) (List.drop 0 (u32s starts)), it := none : Sy.Blk }), (72, { rw := true, op := some (72, 6), cells := [], it := none : Sy.Blk }), (70, { rw := true, op := some (70, 1), cells := [], it := none : Sy.Blk }), (68, { rw := true, op := none, cells := [Value.int IntKind.i64 pages, Value.int IntKind.i64 stack, Value.int IntKind.i64 types, Value.slice (some { block := 70, off := 0 }) 0 9223372036854775878, Value.string { data := { toList := List.take ((if (20000 : Int) < (↑(lenT data) : Int) then (20000 : Int) else (↑(lenT data) : Int)).toNat - 0) (List.drop 0 data) : Array UInt8 } : ByteArray }, Value.slice (some { block := 72, off := 0 }) 0 9223372036854775880, Value.slice (some { block := 74, off := 0 }) (0 + (if (6 : Int) < (↑starts.length : Int) then (6 : Int) else (↑starts.length : Int)).toNat) 9223372036854775882], it := none : Sy.Blk }), (67, { rw := true, op := none, cells := [Value.int IntKind.i64 pages, Value.int IntKind.i64 stack, Value.int IntKind.i64 types, Value.slice (some { block := 70, off := 0 }) 0 9223372036854775878, Value.string { data := { toList := List.take ((if (20000 : Int) < (↑(lenT data) : Int) then (20000 : Int) else (↑(lenT data) : Int)).toNat - 0) (List.drop 0 data) : Array UInt8 } : ByteArray }, Value.slice (some { block := 72, off := 0 }) 0 9223372036854775880, Value.slice (some { block := 74, off := 0 }) (0 + (if (6 : Int) < (↑starts.length : Int) then (6 : Int) else (↑starts.length : Int)).toNat) 9223372036854775882], it := none : Sy.Blk }), (66, { rw := false, op := some (0, 0), cells := u32s starts, it := none : Sy.Blk })], lo := [(74, 0 + (if (6 : Int) < (↑starts.length : Int) then (6 : Int) else (↑starts.length : Int)).toNat), (72, 0), (70, 0), (64, 0), (65, 0), (66, starts.length)], esc := 0, T := [], k := 0, O := bif (lenT (List.take ((if (6 : Int) < (↑starts.length : Int) then (6 : Int) else (↑starts.length : Int)).toNat * 1) (List.drop 0 (u32s starts)))).beq ((if (6 : Int) < (↑starts.length : Int) then (6 : Int) else (↑starts.length : Int)).toNat * 1) && oneC (List.take ((if (6 : Int) < (↑starts.length : Int) then (6 : Int) else (↑starts.length : Int)).toNat * 1) (List.drop 0 (u32s starts))) && ((0 + (if (6 : Int) < (↑starts.length : Int) then (6 : Int) else (↑starts.length : Int)).toNat) * 4).ble 1099511627776 && (0 + (if (6 : Int) < (↑starts.length : Int) then (6 : Int) else (↑starts.length : Int)).toNat).blt 4611686018427387904 then bif hasN (0 + (if (6 : Int) < (↑starts.length : Int) then (6 : Int) else (↑starts.length : Int)).toNat * 1) (u32s starts) then bif decide ((0 : Int) ≤ if (6 : Int) < (↑starts.length : Int) then (6 : Int) else (↑starts.length : Int)) && decide ((if (6 : Int) < (↑starts.length : Int) then (6 : Int) else (↑starts.length : Int)) ≤ (↑starts.length : Int)) then bif decide ((0 : Int) ≤ if (20000 : Int) < (↑(lenT data) : Int) then (20000 : Int) else (↑(lenT data) : Int)) && decide ((if (20000 : Int) < (↑(lenT data) : Int) then (20000 : Int) else (↑(lenT data) : Int)) ≤ (↑(lenT data) : Int)) then True else False else False else False else False : St }) := by kernel_rfl
theorem own_nen (pages : Int) (stack : Int) (types : Int) (data : List UInt8) (cs : List Nat) (rs : List Rl) (starts : List Nat) : evF Try.prog noBase noLoop 100 10 9 [Value.agg { toList := [Value.int IntKind.i64 pages, Value.int IntKind.i64 stack, Value.int IntKind.i64 types, Value.slice none 0 0, Value.string { data := { toList := data : Array UInt8 } : ByteArray }, Value.slice (some { block := 65, off := 0, spot := some 65 }) 0 (big + 65), Value.slice none 0 0] }] { n := 67, h := [], lo := [(64, 0), (65, 0), (66, 0)], esc := 0, T := [], k := 0, O := True : St } = some (Value.agg { toList := [Value.int IntKind.i64 pages, Value.int IntKind.i64 stack, Value.int IntKind.i64 types, Value.slice (some { block := 70, off := 0 }) 0 9223372036854775878, Value.string { data := { toList := List.take ((if (20000 : Int) < (↑(lenT data) : Int) then (20000 : Int) else (↑(lenT data) : Int)).toNat - 0) (List.drop 0 data) : Array UInt8 } : ByteArray }, Value.slice (some { block := 72, off := 0 }) 0 9223372036854775880, Value.slice (some { block := 74, off := 0 }) 0 9223372036854775882] }, { n := 75, h := [(74, { rw := true, op := some (74, 1), cells := [], it := none : Sy.Blk }), (72, { rw := true, op := some (72, 6), cells := [], it := none : Sy.Blk }), (70, { rw := true, op := some (70, 1), cells := [], it := none : Sy.Blk }), (68, { rw := true, op := none, cells := [Value.int IntKind.i64 pages, Value.int IntKind.i64 stack, Value.int IntKind.i64 types, Value.slice (some { block := 70, off := 0 }) 0 9223372036854775878, Value.string { data := { toList := List.take ((if (20000 : Int) < (↑(lenT data) : Int) then (20000 : Int) else (↑(lenT data) : Int)).toNat - 0) (List.drop 0 data) : Array UInt8 } : ByteArray }, Value.slice (some { block := 72, off := 0 }) 0 9223372036854775880, Value.slice (some { block := 74, off := 0 }) 0 9223372036854775882], it := none : Sy.Blk }), (67, { rw := true, op := none, cells := [Value.int IntKind.i64 pages, Value.int IntKind.i64 stack, Value.int IntKind.i64 types, Value.slice (some { block := 70, off := 0 }) 0 9223372036854775878, Value.string { data := { toList := List.take ((if (20000 : Int) < (↑(lenT data) : Int) then (20000 : Int) else (↑(lenT data) : Int)).toNat - 0) (List.drop 0 data) : Array UInt8 } : ByteArray }, Value.slice (some { block := 72, off := 0 }) 0 9223372036854775880, Value.slice (some { block := 74, off := 0 }) 0 9223372036854775882], it := none : Sy.Blk })], lo := [(74, 0), (72, 0), (70, 0), (64, 0), (65, 0), (66, 0)], esc := 0, T := [], k := 0, O := bif decide ((0 : Int) ≤ if (20000 : Int) < (↑(lenT data) : Int) then (20000 : Int) else (↑(lenT data) : Int)) && decide ((if (20000 : Int) < (↑(lenT data) : Int) then (20000 : Int) else (↑(lenT data) : Int)) ≤ (↑(lenT data) : Int)) then True else False : St }) := by kernel_rfl
theorem own_nee (pages : Int) (stack : Int) (types : Int) (data : List UInt8) (cs : List Nat) (rs : List Rl) (starts : List Nat) : evF Try.prog noBase noLoop 100 10 9 [Value.agg { toList := [Value.int IntKind.i64 pages, Value.int IntKind.i64 stack, Value.int IntKind.i64 types, Value.slice none 0 0, Value.string { data := { toList := data : Array UInt8 } : ByteArray }, Value.slice (some { block := 65, off := 0, spot := some 65 }) 0 (big + 65), Value.slice (some { block := 66, off := 0, spot := some 66 }) 0 (big + 66)] }] { n := 67, h := [], lo := [(64, 0), (65, 0), (66, 0)], esc := 0, T := [], k := 0, O := True : St } = some (Value.agg { toList := [Value.int IntKind.i64 pages, Value.int IntKind.i64 stack, Value.int IntKind.i64 types, Value.slice (some { block := 70, off := 0 }) 0 9223372036854775878, Value.string { data := { toList := List.take ((if (20000 : Int) < (↑(lenT data) : Int) then (20000 : Int) else (↑(lenT data) : Int)).toNat - 0) (List.drop 0 data) : Array UInt8 } : ByteArray }, Value.slice (some { block := 72, off := 0 }) 0 9223372036854775880, Value.slice (some { block := 74, off := 0 }) 0 9223372036854775882] }, { n := 75, h := [(74, { rw := true, op := some (74, 1), cells := [], it := none : Sy.Blk }), (72, { rw := true, op := some (72, 6), cells := [], it := none : Sy.Blk }), (70, { rw := true, op := some (70, 1), cells := [], it := none : Sy.Blk }), (68, { rw := true, op := none, cells := [Value.int IntKind.i64 pages, Value.int IntKind.i64 stack, Value.int IntKind.i64 types, Value.slice (some { block := 70, off := 0 }) 0 9223372036854775878, Value.string { data := { toList := List.take ((if (20000 : Int) < (↑(lenT data) : Int) then (20000 : Int) else (↑(lenT data) : Int)).toNat - 0) (List.drop 0 data) : Array UInt8 } : ByteArray }, Value.slice (some { block := 72, off := 0 }) 0 9223372036854775880, Value.slice (some { block := 74, off := 0 }) 0 9223372036854775882], it := none : Sy.Blk }), (67, { rw := true, op := none, cells := [Value.int IntKind.i64 pages, Value.int IntKind.i64 stack, Value.int IntKind.i64 types, Value.slice (some { block := 70, off := 0 }) 0 9223372036854775878, Value.string { data := { toList := List.take ((if (20000 : Int) < (↑(lenT data) : Int) then (20000 : Int) else (↑(lenT data) : Int)).toNat - 0) (List.drop 0 data) : Array UInt8 } : ByteArray }, Value.slice (some { block := 72, off := 0 }) 0 9223372036854775880, Value.slice (some { block := 74, off := 0 }) 0 9223372036854775882], it := none : Sy.Blk })], lo := [(74, 0), (72, 0), (70, 0), (64, 0), (65, 0), (66, 0)], esc := 0, T := [], k := 0, O := bif decide ((0 : Int) ≤ if (20000 : Int) < (↑(lenT data) : Int) then (20000 : Int) else (↑(lenT data) : Int)) && decide ((if (20000 : Int) < (↑(lenT data) : Int) then (20000 : Int) else (↑(lenT data) : Int)) ≤ (↑(lenT data) : Int)) then True else False : St }) := by kernel_rfl
theorem own_nel (pages : Int) (stack : Int) (types : Int) (data : List UInt8) (cs : List Nat) (rs : List Rl) (starts : List Nat) : evF Try.prog noBase noLoop 100 10 9 [Value.agg { toList := [Value.int IntKind.i64 pages, Value.int IntKind.i64 stack, Value.int IntKind.i64 types, Value.slice none 0 0, Value.string { data := { toList := data : Array UInt8 } : ByteArray }, Value.slice (some { block := 65, off := 0, spot := some 65 }) 0 (big + 65), Value.slice (some { block := 66, off := 0 }) starts.length (big + 66)] }] { n := 67, h := [(66, { rw := false, op := some (0, 0), cells := u32s starts, it := none : Sy.Blk })], lo := [(64, 0), (65, 0), (66, starts.length)], esc := 0, T := [], k := 0, O := True : St } = some (Value.agg { toList := [Value.int IntKind.i64 pages, Value.int IntKind.i64 stack, Value.int IntKind.i64 types, Value.slice (some { block := 70, off := 0 }) 0 9223372036854775878, Value.string { data := { toList := List.take ((if (20000 : Int) < (↑(lenT data) : Int) then (20000 : Int) else (↑(lenT data) : Int)).toNat - 0) (List.drop 0 data) : Array UInt8 } : ByteArray }, Value.slice (some { block := 72, off := 0 }) 0 9223372036854775880, Value.slice (some { block := 74, off := 0 }) (0 + (if (6 : Int) < (↑starts.length : Int) then (6 : Int) else (↑starts.length : Int)).toNat) 9223372036854775882] }, { n := 75, h := [(74, { rw := true, op := some (74, 1), cells := List.take ((if (6 : Int) < (↑starts.length : Int) then (6 : Int) else (↑starts.length : Int)).toNat * 1) (List.drop 0 (u32s starts)), it := none : Sy.Blk }), (72, { rw := true, op := some (72, 6), cells := [], it := none : Sy.Blk }), (70, { rw := true, op := some (70, 1), cells := [], it := none : Sy.Blk }), (68, { rw := true, op := none, cells := [Value.int IntKind.i64 pages, Value.int IntKind.i64 stack, Value.int IntKind.i64 types, Value.slice (some { block := 70, off := 0 }) 0 9223372036854775878, Value.string { data := { toList := List.take ((if (20000 : Int) < (↑(lenT data) : Int) then (20000 : Int) else (↑(lenT data) : Int)).toNat - 0) (List.drop 0 data) : Array UInt8 } : ByteArray }, Value.slice (some { block := 72, off := 0 }) 0 9223372036854775880, Value.slice (some { block := 74, off := 0 }) (0 + (if (6 : Int) < (↑starts.length : Int) then (6 : Int) else (↑starts.length : Int)).toNat) 9223372036854775882], it := none : Sy.Blk }), (67, { rw := true, op := none, cells := [Value.int IntKind.i64 pages, Value.int IntKind.i64 stack, Value.int IntKind.i64 types, Value.slice (some { block := 70, off := 0 }) 0 9223372036854775878, Value.string { data := { toList := List.take ((if (20000 : Int) < (↑(lenT data) : Int) then (20000 : Int) else (↑(lenT data) : Int)).toNat - 0) (List.drop 0 data) : Array UInt8 } : ByteArray }, Value.slice (some { block := 72, off := 0 }) 0 9223372036854775880, Value.slice (some { block := 74, off := 0 }) (0 + (if (6 : Int) < (↑starts.length : Int) then (6 : Int) else (↑starts.length : Int)).toNat) 9223372036854775882], it := none : Sy.Blk }), (66, { rw := false, op := some (0, 0), cells := u32s starts, it := none : Sy.Blk })], lo := [(74, 0 + (if (6 : Int) < (↑starts.length : Int) then (6 : Int) else (↑starts.length : Int)).toNat), (72, 0), (70, 0), (64, 0), (65, 0), (66, starts.length)], esc := 0, T := [], k := 0, O := bif (lenT (List.take ((if (6 : Int) < (↑starts.length : Int) then (6 : Int) else (↑starts.length : Int)).toNat * 1) (List.drop 0 (u32s starts)))).beq ((if (6 : Int) < (↑starts.length : Int) then (6 : Int) else (↑starts.length : Int)).toNat * 1) && oneC (List.take ((if (6 : Int) < (↑starts.length : Int) then (6 : Int) else (↑starts.length : Int)).toNat * 1) (List.drop 0 (u32s starts))) && ((0 + (if (6 : Int) < (↑starts.length : Int) then (6 : Int) else (↑starts.length : Int)).toNat) * 4).ble 1099511627776 && (0 + (if (6 : Int) < (↑starts.length : Int) then (6 : Int) else (↑starts.length : Int)).toNat).blt 4611686018427387904 then bif hasN (0 + (if (6 : Int) < (↑starts.length : Int) then (6 : Int) else (↑starts.length : Int)).toNat * 1) (u32s starts) then bif decide ((0 : Int) ≤ if (6 : Int) < (↑starts.length : Int) then (6 : Int) else (↑starts.length : Int)) && decide ((if (6 : Int) < (↑starts.length : Int) then (6 : Int) else (↑starts.length : Int)) ≤ (↑starts.length : Int)) then bif decide ((0 : Int) ≤ if (20000 : Int) < (↑(lenT data) : Int) then (20000 : Int) else (↑(lenT data) : Int)) && decide ((if (20000 : Int) < (↑(lenT data) : Int) then (20000 : Int) else (↑(lenT data) : Int)) ≤ (↑(lenT data) : Int)) then True else False else False else False else False : St }) := by kernel_rfl
theorem own_nln (pages : Int) (stack : Int) (types : Int) (data : List UInt8) (cs : List Nat) (rs : List Rl) (starts : List Nat) : evF Try.prog noBase noLoop 100 10 9 [Value.agg { toList := [Value.int IntKind.i64 pages, Value.int IntKind.i64 stack, Value.int IntKind.i64 types, Value.slice none 0 0, Value.string { data := { toList := data : Array UInt8 } : ByteArray }, Value.slice (some { block := 65, off := 0 }) rs.length (big + 65), Value.slice none 0 0] }] { n := 67, h := [(65, { rw := false, op := some (0, 0), cells := rels rs, it := none : Sy.Blk })], lo := [(64, 0), (65, rs.length), (66, 0)], esc := 0, T := [], k := 0, O := True : St } = some (Value.agg { toList := [Value.int IntKind.i64 pages, Value.int IntKind.i64 stack, Value.int IntKind.i64 types, Value.slice (some { block := 70, off := 0 }) 0 9223372036854775878, Value.string { data := { toList := List.take ((if (20000 : Int) < (↑(lenT data) : Int) then (20000 : Int) else (↑(lenT data) : Int)).toNat - 0) (List.drop 0 data) : Array UInt8 } : ByteArray }, Value.slice (some { block := 72, off := 0 }) (0 + (if (300 : Int) < (↑rs.length : Int) then (300 : Int) else (↑rs.length : Int)).toNat) 9223372036854775880, Value.slice (some { block := 74, off := 0 }) 0 9223372036854775882] }, { n := 75, h := [(74, { rw := true, op := some (74, 1), cells := [], it := none : Sy.Blk }), (72, { rw := true, op := some (72, 6), cells := List.take ((if (300 : Int) < (↑rs.length : Int) then (300 : Int) else (↑rs.length : Int)).toNat * 6) (List.drop 0 (rels rs)), it := none : Sy.Blk }), (70, { rw := true, op := some (70, 1), cells := [], it := none : Sy.Blk }), (68, { rw := true, op := none, cells := [Value.int IntKind.i64 pages, Value.int IntKind.i64 stack, Value.int IntKind.i64 types, Value.slice (some { block := 70, off := 0 }) 0 9223372036854775878, Value.string { data := { toList := List.take ((if (20000 : Int) < (↑(lenT data) : Int) then (20000 : Int) else (↑(lenT data) : Int)).toNat - 0) (List.drop 0 data) : Array UInt8 } : ByteArray }, Value.slice (some { block := 72, off := 0 }) (0 + (if (300 : Int) < (↑rs.length : Int) then (300 : Int) else (↑rs.length : Int)).toNat) 9223372036854775880, Value.slice (some { block := 74, off := 0 }) 0 9223372036854775882], it := none : Sy.Blk }), (67, { rw := true, op := none, cells := [Value.int IntKind.i64 pages, Value.int IntKind.i64 stack, Value.int IntKind.i64 types, Value.slice (some { block := 70, off := 0 }) 0 9223372036854775878, Value.string { data := { toList := List.take ((if (20000 : Int) < (↑(lenT data) : Int) then (20000 : Int) else (↑(lenT data) : Int)).toNat - 0) (List.drop 0 data) : Array UInt8 } : ByteArray }, Value.slice (some { block := 72, off := 0 }) (0 + (if (300 : Int) < (↑rs.length : Int) then (300 : Int) else (↑rs.length : Int)).toNat) 9223372036854775880, Value.slice (some { block := 74, off := 0 }) 0 9223372036854775882], it := none : Sy.Blk }), (65, { rw := false, op := some (0, 0), cells := rels rs, it := none : Sy.Blk })], lo := [(74, 0), (72, 0 + (if (300 : Int) < (↑rs.length : Int) then (300 : Int) else (↑rs.length : Int)).toNat), (70, 0), (64, 0), (65, rs.length), (66, 0)], esc := 0, T := [], k := 0, O := bif (lenT (List.take ((if (300 : Int) < (↑rs.length : Int) then (300 : Int) else (↑rs.length : Int)).toNat * 6) (List.drop 0 (rels rs)))).beq ((if (300 : Int) < (↑rs.length : Int) then (300 : Int) else (↑rs.length : Int)).toNat * 6) && oneC (List.take ((if (300 : Int) < (↑rs.length : Int) then (300 : Int) else (↑rs.length : Int)).toNat * 6) (List.drop 0 (rels rs))) && ((0 + (if (300 : Int) < (↑rs.length : Int) then (300 : Int) else (↑rs.length : Int)).toNat) * 20).ble 1099511627776 && (0 + (if (300 : Int) < (↑rs.length : Int) then (300 : Int) else (↑rs.length : Int)).toNat).blt 4611686018427387904 then bif hasN (0 + (if (300 : Int) < (↑rs.length : Int) then (300 : Int) else (↑rs.length : Int)).toNat * 6) (rels rs) then bif decide ((0 : Int) ≤ if (300 : Int) < (↑rs.length : Int) then (300 : Int) else (↑rs.length : Int)) && decide ((if (300 : Int) < (↑rs.length : Int) then (300 : Int) else (↑rs.length : Int)) ≤ (↑rs.length : Int)) then bif decide ((0 : Int) ≤ if (20000 : Int) < (↑(lenT data) : Int) then (20000 : Int) else (↑(lenT data) : Int)) && decide ((if (20000 : Int) < (↑(lenT data) : Int) then (20000 : Int) else (↑(lenT data) : Int)) ≤ (↑(lenT data) : Int)) then True else False else False else False else False : St }) := by kernel_rfl
theorem own_nle (pages : Int) (stack : Int) (types : Int) (data : List UInt8) (cs : List Nat) (rs : List Rl) (starts : List Nat) : evF Try.prog noBase noLoop 100 10 9 [Value.agg { toList := [Value.int IntKind.i64 pages, Value.int IntKind.i64 stack, Value.int IntKind.i64 types, Value.slice none 0 0, Value.string { data := { toList := data : Array UInt8 } : ByteArray }, Value.slice (some { block := 65, off := 0 }) rs.length (big + 65), Value.slice (some { block := 66, off := 0, spot := some 66 }) 0 (big + 66)] }] { n := 67, h := [(65, { rw := false, op := some (0, 0), cells := rels rs, it := none : Sy.Blk })], lo := [(64, 0), (65, rs.length), (66, 0)], esc := 0, T := [], k := 0, O := True : St } = some (Value.agg { toList := [Value.int IntKind.i64 pages, Value.int IntKind.i64 stack, Value.int IntKind.i64 types, Value.slice (some { block := 70, off := 0 }) 0 9223372036854775878, Value.string { data := { toList := List.take ((if (20000 : Int) < (↑(lenT data) : Int) then (20000 : Int) else (↑(lenT data) : Int)).toNat - 0) (List.drop 0 data) : Array UInt8 } : ByteArray }, Value.slice (some { block := 72, off := 0 }) (0 + (if (300 : Int) < (↑rs.length : Int) then (300 : Int) else (↑rs.length : Int)).toNat) 9223372036854775880, Value.slice (some { block := 74, off := 0 }) 0 9223372036854775882] }, { n := 75, h := [(74, { rw := true, op := some (74, 1), cells := [], it := none : Sy.Blk }), (72, { rw := true, op := some (72, 6), cells := List.take ((if (300 : Int) < (↑rs.length : Int) then (300 : Int) else (↑rs.length : Int)).toNat * 6) (List.drop 0 (rels rs)), it := none : Sy.Blk }), (70, { rw := true, op := some (70, 1), cells := [], it := none : Sy.Blk }), (68, { rw := true, op := none, cells := [Value.int IntKind.i64 pages, Value.int IntKind.i64 stack, Value.int IntKind.i64 types, Value.slice (some { block := 70, off := 0 }) 0 9223372036854775878, Value.string { data := { toList := List.take ((if (20000 : Int) < (↑(lenT data) : Int) then (20000 : Int) else (↑(lenT data) : Int)).toNat - 0) (List.drop 0 data) : Array UInt8 } : ByteArray }, Value.slice (some { block := 72, off := 0 }) (0 + (if (300 : Int) < (↑rs.length : Int) then (300 : Int) else (↑rs.length : Int)).toNat) 9223372036854775880, Value.slice (some { block := 74, off := 0 }) 0 9223372036854775882], it := none : Sy.Blk }), (67, { rw := true, op := none, cells := [Value.int IntKind.i64 pages, Value.int IntKind.i64 stack, Value.int IntKind.i64 types, Value.slice (some { block := 70, off := 0 }) 0 9223372036854775878, Value.string { data := { toList := List.take ((if (20000 : Int) < (↑(lenT data) : Int) then (20000 : Int) else (↑(lenT data) : Int)).toNat - 0) (List.drop 0 data) : Array UInt8 } : ByteArray }, Value.slice (some { block := 72, off := 0 }) (0 + (if (300 : Int) < (↑rs.length : Int) then (300 : Int) else (↑rs.length : Int)).toNat) 9223372036854775880, Value.slice (some { block := 74, off := 0 }) 0 9223372036854775882], it := none : Sy.Blk }), (65, { rw := false, op := some (0, 0), cells := rels rs, it := none : Sy.Blk })], lo := [(74, 0), (72, 0 + (if (300 : Int) < (↑rs.length : Int) then (300 : Int) else (↑rs.length : Int)).toNat), (70, 0), (64, 0), (65, rs.length), (66, 0)], esc := 0, T := [], k := 0, O := bif (lenT (List.take ((if (300 : Int) < (↑rs.length : Int) then (300 : Int) else (↑rs.length : Int)).toNat * 6) (List.drop 0 (rels rs)))).beq ((if (300 : Int) < (↑rs.length : Int) then (300 : Int) else (↑rs.length : Int)).toNat * 6) && oneC (List.take ((if (300 : Int) < (↑rs.length : Int) then (300 : Int) else (↑rs.length : Int)).toNat * 6) (List.drop 0 (rels rs))) && ((0 + (if (300 : Int) < (↑rs.length : Int) then (300 : Int) else (↑rs.length : Int)).toNat) * 20).ble 1099511627776 && (0 + (if (300 : Int) < (↑rs.length : Int) then (300 : Int) else (↑rs.length : Int)).toNat).blt 4611686018427387904 then bif hasN (0 + (if (300 : Int) < (↑rs.length : Int) then (300 : Int) else (↑rs.length : Int)).toNat * 6) (rels rs) then bif decide ((0 : Int) ≤ if (300 : Int) < (↑rs.length : Int) then (300 : Int) else (↑rs.length : Int)) && decide ((if (300 : Int) < (↑rs.length : Int) then (300 : Int) else (↑rs.length : Int)) ≤ (↑rs.length : Int)) then bif decide ((0 : Int) ≤ if (20000 : Int) < (↑(lenT data) : Int) then (20000 : Int) else (↑(lenT data) : Int)) && decide ((if (20000 : Int) < (↑(lenT data) : Int) then (20000 : Int) else (↑(lenT data) : Int)) ≤ (↑(lenT data) : Int)) then True else False else False else False else False : St }) := by kernel_rfl
theorem own_nll (pages : Int) (stack : Int) (types : Int) (data : List UInt8) (cs : List Nat) (rs : List Rl) (starts : List Nat) : evF Try.prog noBase noLoop 100 10 9 [Value.agg { toList := [Value.int IntKind.i64 pages, Value.int IntKind.i64 stack, Value.int IntKind.i64 types, Value.slice none 0 0, Value.string { data := { toList := data : Array UInt8 } : ByteArray }, Value.slice (some { block := 65, off := 0 }) rs.length (big + 65), Value.slice (some { block := 66, off := 0 }) starts.length (big + 66)] }] { n := 67, h := [(65, { rw := false, op := some (0, 0), cells := rels rs, it := none : Sy.Blk }), (66, { rw := false, op := some (0, 0), cells := u32s starts, it := none : Sy.Blk })], lo := [(64, 0), (65, rs.length), (66, starts.length)], esc := 0, T := [], k := 0, O := True : St } = some (Value.agg { toList := [Value.int IntKind.i64 pages, Value.int IntKind.i64 stack, Value.int IntKind.i64 types, Value.slice (some { block := 70, off := 0 }) 0 9223372036854775878, Value.string { data := { toList := List.take ((if (20000 : Int) < (↑(lenT data) : Int) then (20000 : Int) else (↑(lenT data) : Int)).toNat - 0) (List.drop 0 data) : Array UInt8 } : ByteArray }, Value.slice (some { block := 72, off := 0 }) (0 + (if (300 : Int) < (↑rs.length : Int) then (300 : Int) else (↑rs.length : Int)).toNat) 9223372036854775880, Value.slice (some { block := 74, off := 0 }) (0 + (if (6 : Int) < (↑starts.length : Int) then (6 : Int) else (↑starts.length : Int)).toNat) 9223372036854775882] }, { n := 75, h := [(74, { rw := true, op := some (74, 1), cells := List.take ((if (6 : Int) < (↑starts.length : Int) then (6 : Int) else (↑starts.length : Int)).toNat * 1) (List.drop 0 (u32s starts)), it := none : Sy.Blk }), (72, { rw := true, op := some (72, 6), cells := List.take ((if (300 : Int) < (↑rs.length : Int) then (300 : Int) else (↑rs.length : Int)).toNat * 6) (List.drop 0 (rels rs)), it := none : Sy.Blk }), (70, { rw := true, op := some (70, 1), cells := [], it := none : Sy.Blk }), (68, { rw := true, op := none, cells := [Value.int IntKind.i64 pages, Value.int IntKind.i64 stack, Value.int IntKind.i64 types, Value.slice (some { block := 70, off := 0 }) 0 9223372036854775878, Value.string { data := { toList := List.take ((if (20000 : Int) < (↑(lenT data) : Int) then (20000 : Int) else (↑(lenT data) : Int)).toNat - 0) (List.drop 0 data) : Array UInt8 } : ByteArray }, Value.slice (some { block := 72, off := 0 }) (0 + (if (300 : Int) < (↑rs.length : Int) then (300 : Int) else (↑rs.length : Int)).toNat) 9223372036854775880, Value.slice (some { block := 74, off := 0 }) (0 + (if (6 : Int) < (↑starts.length : Int) then (6 : Int) else (↑starts.length : Int)).toNat) 9223372036854775882], it := none : Sy.Blk }), (67, { rw := true, op := none, cells := [Value.int IntKind.i64 pages, Value.int IntKind.i64 stack, Value.int IntKind.i64 types, Value.slice (some { block := 70, off := 0 }) 0 9223372036854775878, Value.string { data := { toList := List.take ((if (20000 : Int) < (↑(lenT data) : Int) then (20000 : Int) else (↑(lenT data) : Int)).toNat - 0) (List.drop 0 data) : Array UInt8 } : ByteArray }, Value.slice (some { block := 72, off := 0 }) (0 + (if (300 : Int) < (↑rs.length : Int) then (300 : Int) else (↑rs.length : Int)).toNat) 9223372036854775880, Value.slice (some { block := 74, off := 0 }) (0 + (if (6 : Int) < (↑starts.length : Int) then (6 : Int) else (↑starts.length : Int)).toNat) 9223372036854775882], it := none : Sy.Blk }), (65, { rw := false, op := some (0, 0), cells := rels rs, it := none : Sy.Blk }), (66, { rw := false, op := some (0, 0), cells := u32s starts, it := none : Sy.Blk })], lo := [(74, 0 + (if (6 : Int) < (↑starts.length : Int) then (6 : Int) else (↑starts.length : Int)).toNat), (72, 0 + (if (300 : Int) < (↑rs.length : Int) then (300 : Int) else (↑rs.length : Int)).toNat), (70, 0), (64, 0), (65, rs.length), (66, starts.length)], esc := 0, T := [], k := 0, O := bif (lenT (List.take ((if (6 : Int) < (↑starts.length : Int) then (6 : Int) else (↑starts.length : Int)).toNat * 1) (List.drop 0 (u32s starts)))).beq ((if (6 : Int) < (↑starts.length : Int) then (6 : Int) else (↑starts.length : Int)).toNat * 1) && oneC (List.take ((if (6 : Int) < (↑starts.length : Int) then (6 : Int) else (↑starts.length : Int)).toNat * 1) (List.drop 0 (u32s starts))) && ((0 + (if (6 : Int) < (↑starts.length : Int) then (6 : Int) else (↑starts.length : Int)).toNat) * 4).ble 1099511627776 && (0 + (if (6 : Int) < (↑starts.length : Int) then (6 : Int) else (↑starts.length : Int)).toNat).blt 4611686018427387904 then bif hasN (0 + (if (6 : Int) < (↑starts.length : Int) then (6 : Int) else (↑starts.length : Int)).toNat * 1) (u32s starts) then bif decide ((0 : Int) ≤ if (6 : Int) < (↑starts.length : Int) then (6 : Int) else (↑starts.length : Int)) && decide ((if (6 : Int) < (↑starts.length : Int) then (6 : Int) else (↑starts.length : Int)) ≤ (↑starts.length : Int)) then bif (lenT (List.take ((if (300 : Int) < (↑rs.length : Int) then (300 : Int) else (↑rs.length : Int)).toNat * 6) (List.drop 0 (rels rs)))).beq ((if (300 : Int) < (↑rs.length : Int) then (300 : Int) else (↑rs.length : Int)).toNat * 6) && oneC (List.take ((if (300 : Int) < (↑rs.length : Int) then (300 : Int) else (↑rs.length : Int)).toNat * 6) (List.drop 0 (rels rs))) && ((0 + (if (300 : Int) < (↑rs.length : Int) then (300 : Int) else (↑rs.length : Int)).toNat) * 20).ble 1099511627776 && (0 + (if (300 : Int) < (↑rs.length : Int) then (300 : Int) else (↑rs.length : Int)).toNat).blt 4611686018427387904 then bif hasN (0 + (if (300 : Int) < (↑rs.length : Int) then (300 : Int) else (↑rs.length : Int)).toNat * 6) (rels rs) then bif decide ((0 : Int) ≤ if (300 : Int) < (↑rs.length : Int) then (300 : Int) else (↑rs.length : Int)) && decide ((if (300 : Int) < (↑rs.length : Int) then (300 : Int) else (↑rs.length : Int)) ≤ (↑rs.length : Int)) then bif decide ((0 : Int) ≤ if (20000 : Int) < (↑(lenT data) : Int) then (20000 : Int) else (↑(lenT data) : Int)) && decide ((if (20000 : Int) < (↑(lenT data) : Int) then (20000 : Int) else (↑(lenT data) : Int)) ≤ (↑(lenT data) : Int)) then True else False else False else False else False else False else False else False : St }) := by kernel_rfl
theorem own_enn (pages : Int) (stack : Int) (types : Int) (data : List UInt8) (cs : List Nat) (rs : List Rl) (starts : List Nat) : evF Try.prog noBase noLoop 100 10 9 [Value.agg { toList := [Value.int IntKind.i64 pages, Value.int IntKind.i64 stack, Value.int IntKind.i64 types, Value.slice (some { block := 64, off := 0, spot := some 64 }) 0 (big + 64), Value.string { data := { toList := data : Array UInt8 } : ByteArray }, Value.slice none 0 0, Value.slice none 0 0] }] { n := 67, h := [], lo := [(64, 0), (65, 0), (66, 0)], esc := 0, T := [], k := 0, O := True : St } = some (Value.agg { toList := [Value.int IntKind.i64 pages, Value.int IntKind.i64 stack, Value.int IntKind.i64 types, Value.slice (some { block := 70, off := 0 }) 0 9223372036854775878, Value.string { data := { toList := List.take ((if (20000 : Int) < (↑(lenT data) : Int) then (20000 : Int) else (↑(lenT data) : Int)).toNat - 0) (List.drop 0 data) : Array UInt8 } : ByteArray }, Value.slice (some { block := 72, off := 0 }) 0 9223372036854775880, Value.slice (some { block := 74, off := 0 }) 0 9223372036854775882] }, { n := 75, h := [(74, { rw := true, op := some (74, 1), cells := [], it := none : Sy.Blk }), (72, { rw := true, op := some (72, 6), cells := [], it := none : Sy.Blk }), (70, { rw := true, op := some (70, 1), cells := [], it := none : Sy.Blk }), (68, { rw := true, op := none, cells := [Value.int IntKind.i64 pages, Value.int IntKind.i64 stack, Value.int IntKind.i64 types, Value.slice (some { block := 70, off := 0 }) 0 9223372036854775878, Value.string { data := { toList := List.take ((if (20000 : Int) < (↑(lenT data) : Int) then (20000 : Int) else (↑(lenT data) : Int)).toNat - 0) (List.drop 0 data) : Array UInt8 } : ByteArray }, Value.slice (some { block := 72, off := 0 }) 0 9223372036854775880, Value.slice (some { block := 74, off := 0 }) 0 9223372036854775882], it := none : Sy.Blk }), (67, { rw := true, op := none, cells := [Value.int IntKind.i64 pages, Value.int IntKind.i64 stack, Value.int IntKind.i64 types, Value.slice (some { block := 70, off := 0 }) 0 9223372036854775878, Value.string { data := { toList := List.take ((if (20000 : Int) < (↑(lenT data) : Int) then (20000 : Int) else (↑(lenT data) : Int)).toNat - 0) (List.drop 0 data) : Array UInt8 } : ByteArray }, Value.slice (some { block := 72, off := 0 }) 0 9223372036854775880, Value.slice (some { block := 74, off := 0 }) 0 9223372036854775882], it := none : Sy.Blk })], lo := [(74, 0), (72, 0), (70, 0), (64, 0), (65, 0), (66, 0)], esc := 0, T := [], k := 0, O := bif decide ((0 : Int) ≤ if (20000 : Int) < (↑(lenT data) : Int) then (20000 : Int) else (↑(lenT data) : Int)) && decide ((if (20000 : Int) < (↑(lenT data) : Int) then (20000 : Int) else (↑(lenT data) : Int)) ≤ (↑(lenT data) : Int)) then True else False : St }) := by kernel_rfl
theorem own_ene (pages : Int) (stack : Int) (types : Int) (data : List UInt8) (cs : List Nat) (rs : List Rl) (starts : List Nat) : evF Try.prog noBase noLoop 100 10 9 [Value.agg { toList := [Value.int IntKind.i64 pages, Value.int IntKind.i64 stack, Value.int IntKind.i64 types, Value.slice (some { block := 64, off := 0, spot := some 64 }) 0 (big + 64), Value.string { data := { toList := data : Array UInt8 } : ByteArray }, Value.slice none 0 0, Value.slice (some { block := 66, off := 0, spot := some 66 }) 0 (big + 66)] }] { n := 67, h := [], lo := [(64, 0), (65, 0), (66, 0)], esc := 0, T := [], k := 0, O := True : St } = some (Value.agg { toList := [Value.int IntKind.i64 pages, Value.int IntKind.i64 stack, Value.int IntKind.i64 types, Value.slice (some { block := 70, off := 0 }) 0 9223372036854775878, Value.string { data := { toList := List.take ((if (20000 : Int) < (↑(lenT data) : Int) then (20000 : Int) else (↑(lenT data) : Int)).toNat - 0) (List.drop 0 data) : Array UInt8 } : ByteArray }, Value.slice (some { block := 72, off := 0 }) 0 9223372036854775880, Value.slice (some { block := 74, off := 0 }) 0 9223372036854775882] }, { n := 75, h := [(74, { rw := true, op := some (74, 1), cells := [], it := none : Sy.Blk }), (72, { rw := true, op := some (72, 6), cells := [], it := none : Sy.Blk }), (70, { rw := true, op := some (70, 1), cells := [], it := none : Sy.Blk }), (68, { rw := true, op := none, cells := [Value.int IntKind.i64 pages, Value.int IntKind.i64 stack, Value.int IntKind.i64 types, Value.slice (some { block := 70, off := 0 }) 0 9223372036854775878, Value.string { data := { toList := List.take ((if (20000 : Int) < (↑(lenT data) : Int) then (20000 : Int) else (↑(lenT data) : Int)).toNat - 0) (List.drop 0 data) : Array UInt8 } : ByteArray }, Value.slice (some { block := 72, off := 0 }) 0 9223372036854775880, Value.slice (some { block := 74, off := 0 }) 0 9223372036854775882], it := none : Sy.Blk }), (67, { rw := true, op := none, cells := [Value.int IntKind.i64 pages, Value.int IntKind.i64 stack, Value.int IntKind.i64 types, Value.slice (some { block := 70, off := 0 }) 0 9223372036854775878, Value.string { data := { toList := List.take ((if (20000 : Int) < (↑(lenT data) : Int) then (20000 : Int) else (↑(lenT data) : Int)).toNat - 0) (List.drop 0 data) : Array UInt8 } : ByteArray }, Value.slice (some { block := 72, off := 0 }) 0 9223372036854775880, Value.slice (some { block := 74, off := 0 }) 0 9223372036854775882], it := none : Sy.Blk })], lo := [(74, 0), (72, 0), (70, 0), (64, 0), (65, 0), (66, 0)], esc := 0, T := [], k := 0, O := bif decide ((0 : Int) ≤ if (20000 : Int) < (↑(lenT data) : Int) then (20000 : Int) else (↑(lenT data) : Int)) && decide ((if (20000 : Int) < (↑(lenT data) : Int) then (20000 : Int) else (↑(lenT data) : Int)) ≤ (↑(lenT data) : Int)) then True else False : St }) := by kernel_rfl
theorem own_enl (pages : Int) (stack : Int) (types : Int) (data : List UInt8) (cs : List Nat) (rs : List Rl) (starts : List Nat) : evF Try.prog noBase noLoop 100 10 9 [Value.agg { toList := [Value.int IntKind.i64 pages, Value.int IntKind.i64 stack, Value.int IntKind.i64 types, Value.slice (some { block := 64, off := 0, spot := some 64 }) 0 (big + 64), Value.string { data := { toList := data : Array UInt8 } : ByteArray }, Value.slice none 0 0, Value.slice (some { block := 66, off := 0 }) starts.length (big + 66)] }] { n := 67, h := [(66, { rw := false, op := some (0, 0), cells := u32s starts, it := none : Sy.Blk })], lo := [(64, 0), (65, 0), (66, starts.length)], esc := 0, T := [], k := 0, O := True : St } = some (Value.agg { toList := [Value.int IntKind.i64 pages, Value.int IntKind.i64 stack, Value.int IntKind.i64 types, Value.slice (some { block := 70, off := 0 }) 0 9223372036854775878, Value.string { data := { toList := List.take ((if (20000 : Int) < (↑(lenT data) : Int) then (20000 : Int) else (↑(lenT data) : Int)).toNat - 0) (List.drop 0 data) : Array UInt8 } : ByteArray }, Value.slice (some { block := 72, off := 0 }) 0 9223372036854775880, Value.slice (some { block := 74, off := 0 }) (0 + (if (6 : Int) < (↑starts.length : Int) then (6 : Int) else (↑starts.length : Int)).toNat) 9223372036854775882] }, { n := 75, h := [(74, { rw := true, op := some (74, 1), cells := List.take ((if (6 : Int) < (↑starts.length : Int) then (6 : Int) else (↑starts.length : Int)).toNat * 1) (List.drop 0 (u32s starts)), it := none : Sy.Blk }), (72, { rw := true, op := some (72, 6), cells := [], it := none : Sy.Blk }), (70, { rw := true, op := some (70, 1), cells := [], it := none : Sy.Blk }), (68, { rw := true, op := none, cells := [Value.int IntKind.i64 pages, Value.int IntKind.i64 stack, Value.int IntKind.i64 types, Value.slice (some { block := 70, off := 0 }) 0 9223372036854775878, Value.string { data := { toList := List.take ((if (20000 : Int) < (↑(lenT data) : Int) then (20000 : Int) else (↑(lenT data) : Int)).toNat - 0) (List.drop 0 data) : Array UInt8 } : ByteArray }, Value.slice (some { block := 72, off := 0 }) 0 9223372036854775880, Value.slice (some { block := 74, off := 0 }) (0 + (if (6 : Int) < (↑starts.length : Int) then (6 : Int) else (↑starts.length : Int)).toNat) 9223372036854775882], it := none : Sy.Blk }), (67, { rw := true, op := none, cells := [Value.int IntKind.i64 pages, Value.int IntKind.i64 stack, Value.int IntKind.i64 types, Value.slice (some { block := 70, off := 0 }) 0 9223372036854775878, Value.string { data := { toList := List.take ((if (20000 : Int) < (↑(lenT data) : Int) then (20000 : Int) else (↑(lenT data) : Int)).toNat - 0) (List.drop 0 data) : Array UInt8 } : ByteArray }, Value.slice (some { block := 72, off := 0 }) 0 9223372036854775880, Value.slice (some { block := 74, off := 0 }) (0 + (if (6 : Int) < (↑starts.length : Int) then (6 : Int) else (↑starts.length : Int)).toNat) 9223372036854775882], it := none : Sy.Blk }), (66, { rw := false, op := some (0, 0), cells := u32s starts, it := none : Sy.Blk })], lo := [(74, 0 + (if (6 : Int) < (↑starts.length : Int) then (6 : Int) else (↑starts.length : Int)).toNat), (72, 0), (70, 0), (64, 0), (65, 0), (66, starts.length)], esc := 0, T := [], k := 0, O := bif (lenT (List.take ((if (6 : Int) < (↑starts.length : Int) then (6 : Int) else (↑starts.length : Int)).toNat * 1) (List.drop 0 (u32s starts)))).beq ((if (6 : Int) < (↑starts.length : Int) then (6 : Int) else (↑starts.length : Int)).toNat * 1) && oneC (List.take ((if (6 : Int) < (↑starts.length : Int) then (6 : Int) else (↑starts.length : Int)).toNat * 1) (List.drop 0 (u32s starts))) && ((0 + (if (6 : Int) < (↑starts.length : Int) then (6 : Int) else (↑starts.length : Int)).toNat) * 4).ble 1099511627776 && (0 + (if (6 : Int) < (↑starts.length : Int) then (6 : Int) else (↑starts.length : Int)).toNat).blt 4611686018427387904 then bif hasN (0 + (if (6 : Int) < (↑starts.length : Int) then (6 : Int) else (↑starts.length : Int)).toNat * 1) (u32s starts) then bif decide ((0 : Int) ≤ if (6 : Int) < (↑starts.length : Int) then (6 : Int) else (↑starts.length : Int)) && decide ((if (6 : Int) < (↑starts.length : Int) then (6 : Int) else (↑starts.length : Int)) ≤ (↑starts.length : Int)) then bif decide ((0 : Int) ≤ if (20000 : Int) < (↑(lenT data) : Int) then (20000 : Int) else (↑(lenT data) : Int)) && decide ((if (20000 : Int) < (↑(lenT data) : Int) then (20000 : Int) else (↑(lenT data) : Int)) ≤ (↑(lenT data) : Int)) then True else False else False else False else False : St }) := by kernel_rfl
theorem own_een (pages : Int) (stack : Int) (types : Int) (data : List UInt8) (cs : List Nat) (rs : List Rl) (starts : List Nat) : evF Try.prog noBase noLoop 100 10 9 [Value.agg { toList := [Value.int IntKind.i64 pages, Value.int IntKind.i64 stack, Value.int IntKind.i64 types, Value.slice (some { block := 64, off := 0, spot := some 64 }) 0 (big + 64), Value.string { data := { toList := data : Array UInt8 } : ByteArray }, Value.slice (some { block := 65, off := 0, spot := some 65 }) 0 (big + 65), Value.slice none 0 0] }] { n := 67, h := [], lo := [(64, 0), (65, 0), (66, 0)], esc := 0, T := [], k := 0, O := True : St } = some (Value.agg { toList := [Value.int IntKind.i64 pages, Value.int IntKind.i64 stack, Value.int IntKind.i64 types, Value.slice (some { block := 70, off := 0 }) 0 9223372036854775878, Value.string { data := { toList := List.take ((if (20000 : Int) < (↑(lenT data) : Int) then (20000 : Int) else (↑(lenT data) : Int)).toNat - 0) (List.drop 0 data) : Array UInt8 } : ByteArray }, Value.slice (some { block := 72, off := 0 }) 0 9223372036854775880, Value.slice (some { block := 74, off := 0 }) 0 9223372036854775882] }, { n := 75, h := [(74, { rw := true, op := some (74, 1), cells := [], it := none : Sy.Blk }), (72, { rw := true, op := some (72, 6), cells := [], it := none : Sy.Blk }), (70, { rw := true, op := some (70, 1), cells := [], it := none : Sy.Blk }), (68, { rw := true, op := none, cells := [Value.int IntKind.i64 pages, Value.int IntKind.i64 stack, Value.int IntKind.i64 types, Value.slice (some { block := 70, off := 0 }) 0 9223372036854775878, Value.string { data := { toList := List.take ((if (20000 : Int) < (↑(lenT data) : Int) then (20000 : Int) else (↑(lenT data) : Int)).toNat - 0) (List.drop 0 data) : Array UInt8 } : ByteArray }, Value.slice (some { block := 72, off := 0 }) 0 9223372036854775880, Value.slice (some { block := 74, off := 0 }) 0 9223372036854775882], it := none : Sy.Blk }), (67, { rw := true, op := none, cells := [Value.int IntKind.i64 pages, Value.int IntKind.i64 stack, Value.int IntKind.i64 types, Value.slice (some { block := 70, off := 0 }) 0 9223372036854775878, Value.string { data := { toList := List.take ((if (20000 : Int) < (↑(lenT data) : Int) then (20000 : Int) else (↑(lenT data) : Int)).toNat - 0) (List.drop 0 data) : Array UInt8 } : ByteArray }, Value.slice (some { block := 72, off := 0 }) 0 9223372036854775880, Value.slice (some { block := 74, off := 0 }) 0 9223372036854775882], it := none : Sy.Blk })], lo := [(74, 0), (72, 0), (70, 0), (64, 0), (65, 0), (66, 0)], esc := 0, T := [], k := 0, O := bif decide ((0 : Int) ≤ if (20000 : Int) < (↑(lenT data) : Int) then (20000 : Int) else (↑(lenT data) : Int)) && decide ((if (20000 : Int) < (↑(lenT data) : Int) then (20000 : Int) else (↑(lenT data) : Int)) ≤ (↑(lenT data) : Int)) then True else False : St }) := by kernel_rfl
theorem own_eee (pages : Int) (stack : Int) (types : Int) (data : List UInt8) (cs : List Nat) (rs : List Rl) (starts : List Nat) : evF Try.prog noBase noLoop 100 10 9 [Value.agg { toList := [Value.int IntKind.i64 pages, Value.int IntKind.i64 stack, Value.int IntKind.i64 types, Value.slice (some { block := 64, off := 0, spot := some 64 }) 0 (big + 64), Value.string { data := { toList := data : Array UInt8 } : ByteArray }, Value.slice (some { block := 65, off := 0, spot := some 65 }) 0 (big + 65), Value.slice (some { block := 66, off := 0, spot := some 66 }) 0 (big + 66)] }] { n := 67, h := [], lo := [(64, 0), (65, 0), (66, 0)], esc := 0, T := [], k := 0, O := True : St } = some (Value.agg { toList := [Value.int IntKind.i64 pages, Value.int IntKind.i64 stack, Value.int IntKind.i64 types, Value.slice (some { block := 70, off := 0 }) 0 9223372036854775878, Value.string { data := { toList := List.take ((if (20000 : Int) < (↑(lenT data) : Int) then (20000 : Int) else (↑(lenT data) : Int)).toNat - 0) (List.drop 0 data) : Array UInt8 } : ByteArray }, Value.slice (some { block := 72, off := 0 }) 0 9223372036854775880, Value.slice (some { block := 74, off := 0 }) 0 9223372036854775882] }, { n := 75, h := [(74, { rw := true, op := some (74, 1), cells := [], it := none : Sy.Blk }), (72, { rw := true, op := some (72, 6), cells := [], it := none : Sy.Blk }), (70, { rw := true, op := some (70, 1), cells := [], it := none : Sy.Blk }), (68, { rw := true, op := none, cells := [Value.int IntKind.i64 pages, Value.int IntKind.i64 stack, Value.int IntKind.i64 types, Value.slice (some { block := 70, off := 0 }) 0 9223372036854775878, Value.string { data := { toList := List.take ((if (20000 : Int) < (↑(lenT data) : Int) then (20000 : Int) else (↑(lenT data) : Int)).toNat - 0) (List.drop 0 data) : Array UInt8 } : ByteArray }, Value.slice (some { block := 72, off := 0 }) 0 9223372036854775880, Value.slice (some { block := 74, off := 0 }) 0 9223372036854775882], it := none : Sy.Blk }), (67, { rw := true, op := none, cells := [Value.int IntKind.i64 pages, Value.int IntKind.i64 stack, Value.int IntKind.i64 types, Value.slice (some { block := 70, off := 0 }) 0 9223372036854775878, Value.string { data := { toList := List.take ((if (20000 : Int) < (↑(lenT data) : Int) then (20000 : Int) else (↑(lenT data) : Int)).toNat - 0) (List.drop 0 data) : Array UInt8 } : ByteArray }, Value.slice (some { block := 72, off := 0 }) 0 9223372036854775880, Value.slice (some { block := 74, off := 0 }) 0 9223372036854775882], it := none : Sy.Blk })], lo := [(74, 0), (72, 0), (70, 0), (64, 0), (65, 0), (66, 0)], esc := 0, T := [], k := 0, O := bif decide ((0 : Int) ≤ if (20000 : Int) < (↑(lenT data) : Int) then (20000 : Int) else (↑(lenT data) : Int)) && decide ((if (20000 : Int) < (↑(lenT data) : Int) then (20000 : Int) else (↑(lenT data) : Int)) ≤ (↑(lenT data) : Int)) then True else False : St }) := by kernel_rfl
theorem own_eel (pages : Int) (stack : Int) (types : Int) (data : List UInt8) (cs : List Nat) (rs : List Rl) (starts : List Nat) : evF Try.prog noBase noLoop 100 10 9 [Value.agg { toList := [Value.int IntKind.i64 pages, Value.int IntKind.i64 stack, Value.int IntKind.i64 types, Value.slice (some { block := 64, off := 0, spot := some 64 }) 0 (big + 64), Value.string { data := { toList := data : Array UInt8 } : ByteArray }, Value.slice (some { block := 65, off := 0, spot := some 65 }) 0 (big + 65), Value.slice (some { block := 66, off := 0 }) starts.length (big + 66)] }] { n := 67, h := [(66, { rw := false, op := some (0, 0), cells := u32s starts, it := none : Sy.Blk })], lo := [(64, 0), (65, 0), (66, starts.length)], esc := 0, T := [], k := 0, O := True : St } = some (Value.agg { toList := [Value.int IntKind.i64 pages, Value.int IntKind.i64 stack, Value.int IntKind.i64 types, Value.slice (some { block := 70, off := 0 }) 0 9223372036854775878, Value.string { data := { toList := List.take ((if (20000 : Int) < (↑(lenT data) : Int) then (20000 : Int) else (↑(lenT data) : Int)).toNat - 0) (List.drop 0 data) : Array UInt8 } : ByteArray }, Value.slice (some { block := 72, off := 0 }) 0 9223372036854775880, Value.slice (some { block := 74, off := 0 }) (0 + (if (6 : Int) < (↑starts.length : Int) then (6 : Int) else (↑starts.length : Int)).toNat) 9223372036854775882] }, { n := 75, h := [(74, { rw := true, op := some (74, 1), cells := List.take ((if (6 : Int) < (↑starts.length : Int) then (6 : Int) else (↑starts.length : Int)).toNat * 1) (List.drop 0 (u32s starts)), it := none : Sy.Blk }), (72, { rw := true, op := some (72, 6), cells := [], it := none : Sy.Blk }), (70, { rw := true, op := some (70, 1), cells := [], it := none : Sy.Blk }), (68, { rw := true, op := none, cells := [Value.int IntKind.i64 pages, Value.int IntKind.i64 stack, Value.int IntKind.i64 types, Value.slice (some { block := 70, off := 0 }) 0 9223372036854775878, Value.string { data := { toList := List.take ((if (20000 : Int) < (↑(lenT data) : Int) then (20000 : Int) else (↑(lenT data) : Int)).toNat - 0) (List.drop 0 data) : Array UInt8 } : ByteArray }, Value.slice (some { block := 72, off := 0 }) 0 9223372036854775880, Value.slice (some { block := 74, off := 0 }) (0 + (if (6 : Int) < (↑starts.length : Int) then (6 : Int) else (↑starts.length : Int)).toNat) 9223372036854775882], it := none : Sy.Blk }), (67, { rw := true, op := none, cells := [Value.int IntKind.i64 pages, Value.int IntKind.i64 stack, Value.int IntKind.i64 types, Value.slice (some { block := 70, off := 0 }) 0 9223372036854775878, Value.string { data := { toList := List.take ((if (20000 : Int) < (↑(lenT data) : Int) then (20000 : Int) else (↑(lenT data) : Int)).toNat - 0) (List.drop 0 data) : Array UInt8 } : ByteArray }, Value.slice (some { block := 72, off := 0 }) 0 9223372036854775880, Value.slice (some { block := 74, off := 0 }) (0 + (if (6 : Int) < (↑starts.length : Int) then (6 : Int) else (↑starts.length : Int)).toNat) 9223372036854775882], it := none : Sy.Blk }), (66, { rw := false, op := some (0, 0), cells := u32s starts, it := none : Sy.Blk })], lo := [(74, 0 + (if (6 : Int) < (↑starts.length : Int) then (6 : Int) else (↑starts.length : Int)).toNat), (72, 0), (70, 0), (64, 0), (65, 0), (66, starts.length)], esc := 0, T := [], k := 0, O := bif (lenT (List.take ((if (6 : Int) < (↑starts.length : Int) then (6 : Int) else (↑starts.length : Int)).toNat * 1) (List.drop 0 (u32s starts)))).beq ((if (6 : Int) < (↑starts.length : Int) then (6 : Int) else (↑starts.length : Int)).toNat * 1) && oneC (List.take ((if (6 : Int) < (↑starts.length : Int) then (6 : Int) else (↑starts.length : Int)).toNat * 1) (List.drop 0 (u32s starts))) && ((0 + (if (6 : Int) < (↑starts.length : Int) then (6 : Int) else (↑starts.length : Int)).toNat) * 4).ble 1099511627776 && (0 + (if (6 : Int) < (↑starts.length : Int) then (6 : Int) else (↑starts.length : Int)).toNat).blt 4611686018427387904 then bif hasN (0 + (if (6 : Int) < (↑starts.length : Int) then (6 : Int) else (↑starts.length : Int)).toNat * 1) (u32s starts) then bif decide ((0 : Int) ≤ if (6 : Int) < (↑starts.length : Int) then (6 : Int) else (↑starts.length : Int)) && decide ((if (6 : Int) < (↑starts.length : Int) then (6 : Int) else (↑starts.length : Int)) ≤ (↑starts.length : Int)) then bif decide ((0 : Int) ≤ if (20000 : Int) < (↑(lenT data) : Int) then (20000 : Int) else (↑(lenT data) : Int)) && decide ((if (20000 : Int) < (↑(lenT data) : Int) then (20000 : Int) else (↑(lenT data) : Int)) ≤ (↑(lenT data) : Int)) then True else False else False else False else False : St }) := by kernel_rfl
theorem own_eln (pages : Int) (stack : Int) (types : Int) (data : List UInt8) (cs : List Nat) (rs : List Rl) (starts : List Nat) : evF Try.prog noBase noLoop 100 10 9 [Value.agg { toList := [Value.int IntKind.i64 pages, Value.int IntKind.i64 stack, Value.int IntKind.i64 types, Value.slice (some { block := 64, off := 0, spot := some 64 }) 0 (big + 64), Value.string { data := { toList := data : Array UInt8 } : ByteArray }, Value.slice (some { block := 65, off := 0 }) rs.length (big + 65), Value.slice none 0 0] }] { n := 67, h := [(65, { rw := false, op := some (0, 0), cells := rels rs, it := none : Sy.Blk })], lo := [(64, 0), (65, rs.length), (66, 0)], esc := 0, T := [], k := 0, O := True : St } = some (Value.agg { toList := [Value.int IntKind.i64 pages, Value.int IntKind.i64 stack, Value.int IntKind.i64 types, Value.slice (some { block := 70, off := 0 }) 0 9223372036854775878, Value.string { data := { toList := List.take ((if (20000 : Int) < (↑(lenT data) : Int) then (20000 : Int) else (↑(lenT data) : Int)).toNat - 0) (List.drop 0 data) : Array UInt8 } : ByteArray }, Value.slice (some { block := 72, off := 0 }) (0 + (if (300 : Int) < (↑rs.length : Int) then (300 : Int) else (↑rs.length : Int)).toNat) 9223372036854775880, Value.slice (some { block := 74, off := 0 }) 0 9223372036854775882] }, { n := 75, h := [(74, { rw := true, op := some (74, 1), cells := [], it := none : Sy.Blk }), (72, { rw := true, op := some (72, 6), cells := List.take ((if (300 : Int) < (↑rs.length : Int) then (300 : Int) else (↑rs.length : Int)).toNat * 6) (List.drop 0 (rels rs)), it := none : Sy.Blk }), (70, { rw := true, op := some (70, 1), cells := [], it := none : Sy.Blk }), (68, { rw := true, op := none, cells := [Value.int IntKind.i64 pages, Value.int IntKind.i64 stack, Value.int IntKind.i64 types, Value.slice (some { block := 70, off := 0 }) 0 9223372036854775878, Value.string { data := { toList := List.take ((if (20000 : Int) < (↑(lenT data) : Int) then (20000 : Int) else (↑(lenT data) : Int)).toNat - 0) (List.drop 0 data) : Array UInt8 } : ByteArray }, Value.slice (some { block := 72, off := 0 }) (0 + (if (300 : Int) < (↑rs.length : Int) then (300 : Int) else (↑rs.length : Int)).toNat) 9223372036854775880, Value.slice (some { block := 74, off := 0 }) 0 9223372036854775882], it := none : Sy.Blk }), (67, { rw := true, op := none, cells := [Value.int IntKind.i64 pages, Value.int IntKind.i64 stack, Value.int IntKind.i64 types, Value.slice (some { block := 70, off := 0 }) 0 9223372036854775878, Value.string { data := { toList := List.take ((if (20000 : Int) < (↑(lenT data) : Int) then (20000 : Int) else (↑(lenT data) : Int)).toNat - 0) (List.drop 0 data) : Array UInt8 } : ByteArray }, Value.slice (some { block := 72, off := 0 }) (0 + (if (300 : Int) < (↑rs.length : Int) then (300 : Int) else (↑rs.length : Int)).toNat) 9223372036854775880, Value.slice (some { block := 74, off := 0 }) 0 9223372036854775882], it := none : Sy.Blk }), (65, { rw := false, op := some (0, 0), cells := rels rs, it := none : Sy.Blk })], lo := [(74, 0), (72, 0 + (if (300 : Int) < (↑rs.length : Int) then (300 : Int) else (↑rs.length : Int)).toNat), (70, 0), (64, 0), (65, rs.length), (66, 0)], esc := 0, T := [], k := 0, O := bif (lenT (List.take ((if (300 : Int) < (↑rs.length : Int) then (300 : Int) else (↑rs.length : Int)).toNat * 6) (List.drop 0 (rels rs)))).beq ((if (300 : Int) < (↑rs.length : Int) then (300 : Int) else (↑rs.length : Int)).toNat * 6) && oneC (List.take ((if (300 : Int) < (↑rs.length : Int) then (300 : Int) else (↑rs.length : Int)).toNat * 6) (List.drop 0 (rels rs))) && ((0 + (if (300 : Int) < (↑rs.length : Int) then (300 : Int) else (↑rs.length : Int)).toNat) * 20).ble 1099511627776 && (0 + (if (300 : Int) < (↑rs.length : Int) then (300 : Int) else (↑rs.length : Int)).toNat).blt 4611686018427387904 then bif hasN (0 + (if (300 : Int) < (↑rs.length : Int) then (300 : Int) else (↑rs.length : Int)).toNat * 6) (rels rs) then bif decide ((0 : Int) ≤ if (300 : Int) < (↑rs.length : Int) then (300 : Int) else (↑rs.length : Int)) && decide ((if (300 : Int) < (↑rs.length : Int) then (300 : Int) else (↑rs.length : Int)) ≤ (↑rs.length : Int)) then bif decide ((0 : Int) ≤ if (20000 : Int) < (↑(lenT data) : Int) then (20000 : Int) else (↑(lenT data) : Int)) && decide ((if (20000 : Int) < (↑(lenT data) : Int) then (20000 : Int) else (↑(lenT data) : Int)) ≤ (↑(lenT data) : Int)) then True else False else False else False else False : St }) := by kernel_rfl
theorem own_ele (pages : Int) (stack : Int) (types : Int) (data : List UInt8) (cs : List Nat) (rs : List Rl) (starts : List Nat) : evF Try.prog noBase noLoop 100 10 9 [Value.agg { toList := [Value.int IntKind.i64 pages, Value.int IntKind.i64 stack, Value.int IntKind.i64 types, Value.slice (some { block := 64, off := 0, spot := some 64 }) 0 (big + 64), Value.string { data := { toList := data : Array UInt8 } : ByteArray }, Value.slice (some { block := 65, off := 0 }) rs.length (big + 65), Value.slice (some { block := 66, off := 0, spot := some 66 }) 0 (big + 66)] }] { n := 67, h := [(65, { rw := false, op := some (0, 0), cells := rels rs, it := none : Sy.Blk })], lo := [(64, 0), (65, rs.length), (66, 0)], esc := 0, T := [], k := 0, O := True : St } = some (Value.agg { toList := [Value.int IntKind.i64 pages, Value.int IntKind.i64 stack, Value.int IntKind.i64 types, Value.slice (some { block := 70, off := 0 }) 0 9223372036854775878, Value.string { data := { toList := List.take ((if (20000 : Int) < (↑(lenT data) : Int) then (20000 : Int) else (↑(lenT data) : Int)).toNat - 0) (List.drop 0 data) : Array UInt8 } : ByteArray }, Value.slice (some { block := 72, off := 0 }) (0 + (if (300 : Int) < (↑rs.length : Int) then (300 : Int) else (↑rs.length : Int)).toNat) 9223372036854775880, Value.slice (some { block := 74, off := 0 }) 0 9223372036854775882] }, { n := 75, h := [(74, { rw := true, op := some (74, 1), cells := [], it := none : Sy.Blk }), (72, { rw := true, op := some (72, 6), cells := List.take ((if (300 : Int) < (↑rs.length : Int) then (300 : Int) else (↑rs.length : Int)).toNat * 6) (List.drop 0 (rels rs)), it := none : Sy.Blk }), (70, { rw := true, op := some (70, 1), cells := [], it := none : Sy.Blk }), (68, { rw := true, op := none, cells := [Value.int IntKind.i64 pages, Value.int IntKind.i64 stack, Value.int IntKind.i64 types, Value.slice (some { block := 70, off := 0 }) 0 9223372036854775878, Value.string { data := { toList := List.take ((if (20000 : Int) < (↑(lenT data) : Int) then (20000 : Int) else (↑(lenT data) : Int)).toNat - 0) (List.drop 0 data) : Array UInt8 } : ByteArray }, Value.slice (some { block := 72, off := 0 }) (0 + (if (300 : Int) < (↑rs.length : Int) then (300 : Int) else (↑rs.length : Int)).toNat) 9223372036854775880, Value.slice (some { block := 74, off := 0 }) 0 9223372036854775882], it := none : Sy.Blk }), (67, { rw := true, op := none, cells := [Value.int IntKind.i64 pages, Value.int IntKind.i64 stack, Value.int IntKind.i64 types, Value.slice (some { block := 70, off := 0 }) 0 9223372036854775878, Value.string { data := { toList := List.take ((if (20000 : Int) < (↑(lenT data) : Int) then (20000 : Int) else (↑(lenT data) : Int)).toNat - 0) (List.drop 0 data) : Array UInt8 } : ByteArray }, Value.slice (some { block := 72, off := 0 }) (0 + (if (300 : Int) < (↑rs.length : Int) then (300 : Int) else (↑rs.length : Int)).toNat) 9223372036854775880, Value.slice (some { block := 74, off := 0 }) 0 9223372036854775882], it := none : Sy.Blk }), (65, { rw := false, op := some (0, 0), cells := rels rs, it := none : Sy.Blk })], lo := [(74, 0), (72, 0 + (if (300 : Int) < (↑rs.length : Int) then (300 : Int) else (↑rs.length : Int)).toNat), (70, 0), (64, 0), (65, rs.length), (66, 0)], esc := 0, T := [], k := 0, O := bif (lenT (List.take ((if (300 : Int) < (↑rs.length : Int) then (300 : Int) else (↑rs.length : Int)).toNat * 6) (List.drop 0 (rels rs)))).beq ((if (300 : Int) < (↑rs.length : Int) then (300 : Int) else (↑rs.length : Int)).toNat * 6) && oneC (List.take ((if (300 : Int) < (↑rs.length : Int) then (300 : Int) else (↑rs.length : Int)).toNat * 6) (List.drop 0 (rels rs))) && ((0 + (if (300 : Int) < (↑rs.length : Int) then (300 : Int) else (↑rs.length : Int)).toNat) * 20).ble 1099511627776 && (0 + (if (300 : Int) < (↑rs.length : Int) then (300 : Int) else (↑rs.length : Int)).toNat).blt 4611686018427387904 then bif hasN (0 + (if (300 : Int) < (↑rs.length : Int) then (300 : Int) else (↑rs.length : Int)).toNat * 6) (rels rs) then bif decide ((0 : Int) ≤ if (300 : Int) < (↑rs.length : Int) then (300 : Int) else (↑rs.length : Int)) && decide ((if (300 : Int) < (↑rs.length : Int) then (300 : Int) else (↑rs.length : Int)) ≤ (↑rs.length : Int)) then bif decide ((0 : Int) ≤ if (20000 : Int) < (↑(lenT data) : Int) then (20000 : Int) else (↑(lenT data) : Int)) && decide ((if (20000 : Int) < (↑(lenT data) : Int) then (20000 : Int) else (↑(lenT data) : Int)) ≤ (↑(lenT data) : Int)) then True else False else False else False else False : St }) := by kernel_rfl
theorem own_ell (pages : Int) (stack : Int) (types : Int) (data : List UInt8) (cs : List Nat) (rs : List Rl) (starts : List Nat) : evF Try.prog noBase noLoop 100 10 9 [Value.agg { toList := [Value.int IntKind.i64 pages, Value.int IntKind.i64 stack, Value.int IntKind.i64 types, Value.slice (some { block := 64, off := 0, spot := some 64 }) 0 (big + 64), Value.string { data := { toList := data : Array UInt8 } : ByteArray }, Value.slice (some { block := 65, off := 0 }) rs.length (big + 65), Value.slice (some { block := 66, off := 0 }) starts.length (big + 66)] }] { n := 67, h := [(65, { rw := false, op := some (0, 0), cells := rels rs, it := none : Sy.Blk }), (66, { rw := false, op := some (0, 0), cells := u32s starts, it := none : Sy.Blk })], lo := [(64, 0), (65, rs.length), (66, starts.length)], esc := 0, T := [], k := 0, O := True : St } = some (Value.agg { toList := [Value.int IntKind.i64 pages, Value.int IntKind.i64 stack, Value.int IntKind.i64 types, Value.slice (some { block := 70, off := 0 }) 0 9223372036854775878, Value.string { data := { toList := List.take ((if (20000 : Int) < (↑(lenT data) : Int) then (20000 : Int) else (↑(lenT data) : Int)).toNat - 0) (List.drop 0 data) : Array UInt8 } : ByteArray }, Value.slice (some { block := 72, off := 0 }) (0 + (if (300 : Int) < (↑rs.length : Int) then (300 : Int) else (↑rs.length : Int)).toNat) 9223372036854775880, Value.slice (some { block := 74, off := 0 }) (0 + (if (6 : Int) < (↑starts.length : Int) then (6 : Int) else (↑starts.length : Int)).toNat) 9223372036854775882] }, { n := 75, h := [(74, { rw := true, op := some (74, 1), cells := List.take ((if (6 : Int) < (↑starts.length : Int) then (6 : Int) else (↑starts.length : Int)).toNat * 1) (List.drop 0 (u32s starts)), it := none : Sy.Blk }), (72, { rw := true, op := some (72, 6), cells := List.take ((if (300 : Int) < (↑rs.length : Int) then (300 : Int) else (↑rs.length : Int)).toNat * 6) (List.drop 0 (rels rs)), it := none : Sy.Blk }), (70, { rw := true, op := some (70, 1), cells := [], it := none : Sy.Blk }), (68, { rw := true, op := none, cells := [Value.int IntKind.i64 pages, Value.int IntKind.i64 stack, Value.int IntKind.i64 types, Value.slice (some { block := 70, off := 0 }) 0 9223372036854775878, Value.string { data := { toList := List.take ((if (20000 : Int) < (↑(lenT data) : Int) then (20000 : Int) else (↑(lenT data) : Int)).toNat - 0) (List.drop 0 data) : Array UInt8 } : ByteArray }, Value.slice (some { block := 72, off := 0 }) (0 + (if (300 : Int) < (↑rs.length : Int) then (300 : Int) else (↑rs.length : Int)).toNat) 9223372036854775880, Value.slice (some { block := 74, off := 0 }) (0 + (if (6 : Int) < (↑starts.length : Int) then (6 : Int) else (↑starts.length : Int)).toNat) 9223372036854775882], it := none : Sy.Blk }), (67, { rw := true, op := none, cells := [Value.int IntKind.i64 pages, Value.int IntKind.i64 stack, Value.int IntKind.i64 types, Value.slice (some { block := 70, off := 0 }) 0 9223372036854775878, Value.string { data := { toList := List.take ((if (20000 : Int) < (↑(lenT data) : Int) then (20000 : Int) else (↑(lenT data) : Int)).toNat - 0) (List.drop 0 data) : Array UInt8 } : ByteArray }, Value.slice (some { block := 72, off := 0 }) (0 + (if (300 : Int) < (↑rs.length : Int) then (300 : Int) else (↑rs.length : Int)).toNat) 9223372036854775880, Value.slice (some { block := 74, off := 0 }) (0 + (if (6 : Int) < (↑starts.length : Int) then (6 : Int) else (↑starts.length : Int)).toNat) 9223372036854775882], it := none : Sy.Blk }), (65, { rw := false, op := some (0, 0), cells := rels rs, it := none : Sy.Blk }), (66, { rw := false, op := some (0, 0), cells := u32s starts, it := none : Sy.Blk })], lo := [(74, 0 + (if (6 : Int) < (↑starts.length : Int) then (6 : Int) else (↑starts.length : Int)).toNat), (72, 0 + (if (300 : Int) < (↑rs.length : Int) then (300 : Int) else (↑rs.length : Int)).toNat), (70, 0), (64, 0), (65, rs.length), (66, starts.length)], esc := 0, T := [], k := 0, O := bif (lenT (List.take ((if (6 : Int) < (↑starts.length : Int) then (6 : Int) else (↑starts.length : Int)).toNat * 1) (List.drop 0 (u32s starts)))).beq ((if (6 : Int) < (↑starts.length : Int) then (6 : Int) else (↑starts.length : Int)).toNat * 1) && oneC (List.take ((if (6 : Int) < (↑starts.length : Int) then (6 : Int) else (↑starts.length : Int)).toNat * 1) (List.drop 0 (u32s starts))) && ((0 + (if (6 : Int) < (↑starts.length : Int) then (6 : Int) else (↑starts.length : Int)).toNat) * 4).ble 1099511627776 && (0 + (if (6 : Int) < (↑starts.length : Int) then (6 : Int) else (↑starts.length : Int)).toNat).blt 4611686018427387904 then bif hasN (0 + (if (6 : Int) < (↑starts.length : Int) then (6 : Int) else (↑starts.length : Int)).toNat * 1) (u32s starts) then bif decide ((0 : Int) ≤ if (6 : Int) < (↑starts.length : Int) then (6 : Int) else (↑starts.length : Int)) && decide ((if (6 : Int) < (↑starts.length : Int) then (6 : Int) else (↑starts.length : Int)) ≤ (↑starts.length : Int)) then bif (lenT (List.take ((if (300 : Int) < (↑rs.length : Int) then (300 : Int) else (↑rs.length : Int)).toNat * 6) (List.drop 0 (rels rs)))).beq ((if (300 : Int) < (↑rs.length : Int) then (300 : Int) else (↑rs.length : Int)).toNat * 6) && oneC (List.take ((if (300 : Int) < (↑rs.length : Int) then (300 : Int) else (↑rs.length : Int)).toNat * 6) (List.drop 0 (rels rs))) && ((0 + (if (300 : Int) < (↑rs.length : Int) then (300 : Int) else (↑rs.length : Int)).toNat) * 20).ble 1099511627776 && (0 + (if (300 : Int) < (↑rs.length : Int) then (300 : Int) else (↑rs.length : Int)).toNat).blt 4611686018427387904 then bif hasN (0 + (if (300 : Int) < (↑rs.length : Int) then (300 : Int) else (↑rs.length : Int)).toNat * 6) (rels rs) then bif decide ((0 : Int) ≤ if (300 : Int) < (↑rs.length : Int) then (300 : Int) else (↑rs.length : Int)) && decide ((if (300 : Int) < (↑rs.length : Int) then (300 : Int) else (↑rs.length : Int)) ≤ (↑rs.length : Int)) then bif decide ((0 : Int) ≤ if (20000 : Int) < (↑(lenT data) : Int) then (20000 : Int) else (↑(lenT data) : Int)) && decide ((if (20000 : Int) < (↑(lenT data) : Int) then (20000 : Int) else (↑(lenT data) : Int)) ≤ (↑(lenT data) : Int)) then True else False else False else False else False else False else False else False : St }) := by kernel_rfl
theorem own_lnn (pages : Int) (stack : Int) (types : Int) (data : List UInt8) (cs : List Nat) (rs : List Rl) (starts : List Nat) : evF Try.prog noBase noLoop 100 10 9 [Value.agg { toList := [Value.int IntKind.i64 pages, Value.int IntKind.i64 stack, Value.int IntKind.i64 types, Value.slice (some { block := 64, off := 0 }) cs.length (big + 64), Value.string { data := { toList := data : Array UInt8 } : ByteArray }, Value.slice none 0 0, Value.slice none 0 0] }] { n := 67, h := [(64, { rw := false, op := some (0, 0), cells := u32s cs, it := none : Sy.Blk })], lo := [(64, cs.length), (65, 0), (66, 0)], esc := 0, T := [], k := 0, O := True : St } = some (Value.agg { toList := [Value.int IntKind.i64 pages, Value.int IntKind.i64 stack, Value.int IntKind.i64 types, Value.slice (some { block := 70, off := 0 }) (0 + (if (5000 : Int) < (↑cs.length : Int) then (5000 : Int) else (↑cs.length : Int)).toNat) 9223372036854775878, Value.string { data := { toList := List.take ((if (20000 : Int) < (↑(lenT data) : Int) then (20000 : Int) else (↑(lenT data) : Int)).toNat - 0) (List.drop 0 data) : Array UInt8 } : ByteArray }, Value.slice (some { block := 72, off := 0 }) 0 9223372036854775880, Value.slice (some { block := 74, off := 0 }) 0 9223372036854775882] }, { n := 75, h := [(74, { rw := true, op := some (74, 1), cells := [], it := none : Sy.Blk }), (72, { rw := true, op := some (72, 6), cells := [], it := none : Sy.Blk }), (70, { rw := true, op := some (70, 1), cells := List.take ((if (5000 : Int) < (↑cs.length : Int) then (5000 : Int) else (↑cs.length : Int)).toNat * 1) (List.drop 0 (u32s cs)), it := none : Sy.Blk }), (68, { rw := true, op := none, cells := [Value.int IntKind.i64 pages, Value.int IntKind.i64 stack, Value.int IntKind.i64 types, Value.slice (some { block := 70, off := 0 }) (0 + (if (5000 : Int) < (↑cs.length : Int) then (5000 : Int) else (↑cs.length : Int)).toNat) 9223372036854775878, Value.string { data := { toList := List.take ((if (20000 : Int) < (↑(lenT data) : Int) then (20000 : Int) else (↑(lenT data) : Int)).toNat - 0) (List.drop 0 data) : Array UInt8 } : ByteArray }, Value.slice (some { block := 72, off := 0 }) 0 9223372036854775880, Value.slice (some { block := 74, off := 0 }) 0 9223372036854775882], it := none : Sy.Blk }), (67, { rw := true, op := none, cells := [Value.int IntKind.i64 pages, Value.int IntKind.i64 stack, Value.int IntKind.i64 types, Value.slice (some { block := 70, off := 0 }) (0 + (if (5000 : Int) < (↑cs.length : Int) then (5000 : Int) else (↑cs.length : Int)).toNat) 9223372036854775878, Value.string { data := { toList := List.take ((if (20000 : Int) < (↑(lenT data) : Int) then (20000 : Int) else (↑(lenT data) : Int)).toNat - 0) (List.drop 0 data) : Array UInt8 } : ByteArray }, Value.slice (some { block := 72, off := 0 }) 0 9223372036854775880, Value.slice (some { block := 74, off := 0 }) 0 9223372036854775882], it := none : Sy.Blk }), (64, { rw := false, op := some (0, 0), cells := u32s cs, it := none : Sy.Blk })], lo := [(74, 0), (72, 0), (70, 0 + (if (5000 : Int) < (↑cs.length : Int) then (5000 : Int) else (↑cs.length : Int)).toNat), (64, cs.length), (65, 0), (66, 0)], esc := 0, T := [], k := 0, O := bif decide ((0 : Int) ≤ if (20000 : Int) < (↑(lenT data) : Int) then (20000 : Int) else (↑(lenT data) : Int)) && decide ((if (20000 : Int) < (↑(lenT data) : Int) then (20000 : Int) else (↑(lenT data) : Int)) ≤ (↑(lenT data) : Int)) then bif (lenT (List.take ((if (5000 : Int) < (↑cs.length : Int) then (5000 : Int) else (↑cs.length : Int)).toNat * 1) (List.drop 0 (u32s cs)))).beq ((if (5000 : Int) < (↑cs.length : Int) then (5000 : Int) else (↑cs.length : Int)).toNat * 1) && oneC (List.take ((if (5000 : Int) < (↑cs.length : Int) then (5000 : Int) else (↑cs.length : Int)).toNat * 1) (List.drop 0 (u32s cs))) && ((0 + (if (5000 : Int) < (↑cs.length : Int) then (5000 : Int) else (↑cs.length : Int)).toNat) * 4).ble 1099511627776 && (0 + (if (5000 : Int) < (↑cs.length : Int) then (5000 : Int) else (↑cs.length : Int)).toNat).blt 4611686018427387904 then bif hasN (0 + (if (5000 : Int) < (↑cs.length : Int) then (5000 : Int) else (↑cs.length : Int)).toNat * 1) (u32s cs) then bif decide ((0 : Int) ≤ if (5000 : Int) < (↑cs.length : Int) then (5000 : Int) else (↑cs.length : Int)) && decide ((if (5000 : Int) < (↑cs.length : Int) then (5000 : Int) else (↑cs.length : Int)) ≤ (↑cs.length : Int)) then True else False else False else False else False : St }) := by kernel_rfl
theorem own_lne (pages : Int) (stack : Int) (types : Int) (data : List UInt8) (cs : List Nat) (rs : List Rl) (starts : List Nat) : evF Try.prog noBase noLoop 100 10 9 [Value.agg { toList := [Value.int IntKind.i64 pages, Value.int IntKind.i64 stack, Value.int IntKind.i64 types, Value.slice (some { block := 64, off := 0 }) cs.length (big + 64), Value.string { data := { toList := data : Array UInt8 } : ByteArray }, Value.slice none 0 0, Value.slice (some { block := 66, off := 0, spot := some 66 }) 0 (big + 66)] }] { n := 67, h := [(64, { rw := false, op := some (0, 0), cells := u32s cs, it := none : Sy.Blk })], lo := [(64, cs.length), (65, 0), (66, 0)], esc := 0, T := [], k := 0, O := True : St } = some (Value.agg { toList := [Value.int IntKind.i64 pages, Value.int IntKind.i64 stack, Value.int IntKind.i64 types, Value.slice (some { block := 70, off := 0 }) (0 + (if (5000 : Int) < (↑cs.length : Int) then (5000 : Int) else (↑cs.length : Int)).toNat) 9223372036854775878, Value.string { data := { toList := List.take ((if (20000 : Int) < (↑(lenT data) : Int) then (20000 : Int) else (↑(lenT data) : Int)).toNat - 0) (List.drop 0 data) : Array UInt8 } : ByteArray }, Value.slice (some { block := 72, off := 0 }) 0 9223372036854775880, Value.slice (some { block := 74, off := 0 }) 0 9223372036854775882] }, { n := 75, h := [(74, { rw := true, op := some (74, 1), cells := [], it := none : Sy.Blk }), (72, { rw := true, op := some (72, 6), cells := [], it := none : Sy.Blk }), (70, { rw := true, op := some (70, 1), cells := List.take ((if (5000 : Int) < (↑cs.length : Int) then (5000 : Int) else (↑cs.length : Int)).toNat * 1) (List.drop 0 (u32s cs)), it := none : Sy.Blk }), (68, { rw := true, op := none, cells := [Value.int IntKind.i64 pages, Value.int IntKind.i64 stack, Value.int IntKind.i64 types, Value.slice (some { block := 70, off := 0 }) (0 + (if (5000 : Int) < (↑cs.length : Int) then (5000 : Int) else (↑cs.length : Int)).toNat) 9223372036854775878, Value.string { data := { toList := List.take ((if (20000 : Int) < (↑(lenT data) : Int) then (20000 : Int) else (↑(lenT data) : Int)).toNat - 0) (List.drop 0 data) : Array UInt8 } : ByteArray }, Value.slice (some { block := 72, off := 0 }) 0 9223372036854775880, Value.slice (some { block := 74, off := 0 }) 0 9223372036854775882], it := none : Sy.Blk }), (67, { rw := true, op := none, cells := [Value.int IntKind.i64 pages, Value.int IntKind.i64 stack, Value.int IntKind.i64 types, Value.slice (some { block := 70, off := 0 }) (0 + (if (5000 : Int) < (↑cs.length : Int) then (5000 : Int) else (↑cs.length : Int)).toNat) 9223372036854775878, Value.string { data := { toList := List.take ((if (20000 : Int) < (↑(lenT data) : Int) then (20000 : Int) else (↑(lenT data) : Int)).toNat - 0) (List.drop 0 data) : Array UInt8 } : ByteArray }, Value.slice (some { block := 72, off := 0 }) 0 9223372036854775880, Value.slice (some { block := 74, off := 0 }) 0 9223372036854775882], it := none : Sy.Blk }), (64, { rw := false, op := some (0, 0), cells := u32s cs, it := none : Sy.Blk })], lo := [(74, 0), (72, 0), (70, 0 + (if (5000 : Int) < (↑cs.length : Int) then (5000 : Int) else (↑cs.length : Int)).toNat), (64, cs.length), (65, 0), (66, 0)], esc := 0, T := [], k := 0, O := bif decide ((0 : Int) ≤ if (20000 : Int) < (↑(lenT data) : Int) then (20000 : Int) else (↑(lenT data) : Int)) && decide ((if (20000 : Int) < (↑(lenT data) : Int) then (20000 : Int) else (↑(lenT data) : Int)) ≤ (↑(lenT data) : Int)) then bif (lenT (List.take ((if (5000 : Int) < (↑cs.length : Int) then (5000 : Int) else (↑cs.length : Int)).toNat * 1) (List.drop 0 (u32s cs)))).beq ((if (5000 : Int) < (↑cs.length : Int) then (5000 : Int) else (↑cs.length : Int)).toNat * 1) && oneC (List.take ((if (5000 : Int) < (↑cs.length : Int) then (5000 : Int) else (↑cs.length : Int)).toNat * 1) (List.drop 0 (u32s cs))) && ((0 + (if (5000 : Int) < (↑cs.length : Int) then (5000 : Int) else (↑cs.length : Int)).toNat) * 4).ble 1099511627776 && (0 + (if (5000 : Int) < (↑cs.length : Int) then (5000 : Int) else (↑cs.length : Int)).toNat).blt 4611686018427387904 then bif hasN (0 + (if (5000 : Int) < (↑cs.length : Int) then (5000 : Int) else (↑cs.length : Int)).toNat * 1) (u32s cs) then bif decide ((0 : Int) ≤ if (5000 : Int) < (↑cs.length : Int) then (5000 : Int) else (↑cs.length : Int)) && decide ((if (5000 : Int) < (↑cs.length : Int) then (5000 : Int) else (↑cs.length : Int)) ≤ (↑cs.length : Int)) then True else False else False else False else False : St }) := by kernel_rfl
theorem own_lnl (pages : Int) (stack : Int) (types : Int) (data : List UInt8) (cs : List Nat) (rs : List Rl) (starts : List Nat) : evF Try.prog noBase noLoop 100 10 9 [Value.agg { toList := [Value.int IntKind.i64 pages, Value.int IntKind.i64 stack, Value.int IntKind.i64 types, Value.slice (some { block := 64, off := 0 }) cs.length (big + 64), Value.string { data := { toList := data : Array UInt8 } : ByteArray }, Value.slice none 0 0, Value.slice (some { block := 66, off := 0 }) starts.length (big + 66)] }] { n := 67, h := [(64, { rw := false, op := some (0, 0), cells := u32s cs, it := none : Sy.Blk }), (66, { rw := false, op := some (0, 0), cells := u32s starts, it := none : Sy.Blk })], lo := [(64, cs.length), (65, 0), (66, starts.length)], esc := 0, T := [], k := 0, O := True : St } = some (Value.agg { toList := [Value.int IntKind.i64 pages, Value.int IntKind.i64 stack, Value.int IntKind.i64 types, Value.slice (some { block := 70, off := 0 }) (0 + (if (5000 : Int) < (↑cs.length : Int) then (5000 : Int) else (↑cs.length : Int)).toNat) 9223372036854775878, Value.string { data := { toList := List.take ((if (20000 : Int) < (↑(lenT data) : Int) then (20000 : Int) else (↑(lenT data) : Int)).toNat - 0) (List.drop 0 data) : Array UInt8 } : ByteArray }, Value.slice (some { block := 72, off := 0 }) 0 9223372036854775880, Value.slice (some { block := 74, off := 0 }) (0 + (if (6 : Int) < (↑starts.length : Int) then (6 : Int) else (↑starts.length : Int)).toNat) 9223372036854775882] }, { n := 75, h := [(74, { rw := true, op := some (74, 1), cells := List.take ((if (6 : Int) < (↑starts.length : Int) then (6 : Int) else (↑starts.length : Int)).toNat * 1) (List.drop 0 (u32s starts)), it := none : Sy.Blk }), (72, { rw := true, op := some (72, 6), cells := [], it := none : Sy.Blk }), (70, { rw := true, op := some (70, 1), cells := List.take ((if (5000 : Int) < (↑cs.length : Int) then (5000 : Int) else (↑cs.length : Int)).toNat * 1) (List.drop 0 (u32s cs)), it := none : Sy.Blk }), (68, { rw := true, op := none, cells := [Value.int IntKind.i64 pages, Value.int IntKind.i64 stack, Value.int IntKind.i64 types, Value.slice (some { block := 70, off := 0 }) (0 + (if (5000 : Int) < (↑cs.length : Int) then (5000 : Int) else (↑cs.length : Int)).toNat) 9223372036854775878, Value.string { data := { toList := List.take ((if (20000 : Int) < (↑(lenT data) : Int) then (20000 : Int) else (↑(lenT data) : Int)).toNat - 0) (List.drop 0 data) : Array UInt8 } : ByteArray }, Value.slice (some { block := 72, off := 0 }) 0 9223372036854775880, Value.slice (some { block := 74, off := 0 }) (0 + (if (6 : Int) < (↑starts.length : Int) then (6 : Int) else (↑starts.length : Int)).toNat) 9223372036854775882], it := none : Sy.Blk }), (67, { rw := true, op := none, cells := [Value.int IntKind.i64 pages, Value.int IntKind.i64 stack, Value.int IntKind.i64 types, Value.slice (some { block := 70, off := 0 }) (0 + (if (5000 : Int) < (↑cs.length : Int) then (5000 : Int) else (↑cs.length : Int)).toNat) 9223372036854775878, Value.string { data := { toList := List.take ((if (20000 : Int) < (↑(lenT data) : Int) then (20000 : Int) else (↑(lenT data) : Int)).toNat - 0) (List.drop 0 data) : Array UInt8 } : ByteArray }, Value.slice (some { block := 72, off := 0 }) 0 9223372036854775880, Value.slice (some { block := 74, off := 0 }) (0 + (if (6 : Int) < (↑starts.length : Int) then (6 : Int) else (↑starts.length : Int)).toNat) 9223372036854775882], it := none : Sy.Blk }), (64, { rw := false, op := some (0, 0), cells := u32s cs, it := none : Sy.Blk }), (66, { rw := false, op := some (0, 0), cells := u32s starts, it := none : Sy.Blk })], lo := [(74, 0 + (if (6 : Int) < (↑starts.length : Int) then (6 : Int) else (↑starts.length : Int)).toNat), (72, 0), (70, 0 + (if (5000 : Int) < (↑cs.length : Int) then (5000 : Int) else (↑cs.length : Int)).toNat), (64, cs.length), (65, 0), (66, starts.length)], esc := 0, T := [], k := 0, O := bif (lenT (List.take ((if (6 : Int) < (↑starts.length : Int) then (6 : Int) else (↑starts.length : Int)).toNat * 1) (List.drop 0 (u32s starts)))).beq ((if (6 : Int) < (↑starts.length : Int) then (6 : Int) else (↑starts.length : Int)).toNat * 1) && oneC (List.take ((if (6 : Int) < (↑starts.length : Int) then (6 : Int) else (↑starts.length : Int)).toNat * 1) (List.drop 0 (u32s starts))) && ((0 + (if (6 : Int) < (↑starts.length : Int) then (6 : Int) else (↑starts.length : Int)).toNat) * 4).ble 1099511627776 && (0 + (if (6 : Int) < (↑starts.length : Int) then (6 : Int) else (↑starts.length : Int)).toNat).blt 4611686018427387904 then bif hasN (0 + (if (6 : Int) < (↑starts.length : Int) then (6 : Int) else (↑starts.length : Int)).toNat * 1) (u32s starts) then bif decide ((0 : Int) ≤ if (6 : Int) < (↑starts.length : Int) then (6 : Int) else (↑starts.length : Int)) && decide ((if (6 : Int) < (↑starts.length : Int) then (6 : Int) else (↑starts.length : Int)) ≤ (↑starts.length : Int)) then bif decide ((0 : Int) ≤ if (20000 : Int) < (↑(lenT data) : Int) then (20000 : Int) else (↑(lenT data) : Int)) && decide ((if (20000 : Int) < (↑(lenT data) : Int) then (20000 : Int) else (↑(lenT data) : Int)) ≤ (↑(lenT data) : Int)) then bif (lenT (List.take ((if (5000 : Int) < (↑cs.length : Int) then (5000 : Int) else (↑cs.length : Int)).toNat * 1) (List.drop 0 (u32s cs)))).beq ((if (5000 : Int) < (↑cs.length : Int) then (5000 : Int) else (↑cs.length : Int)).toNat * 1) && oneC (List.take ((if (5000 : Int) < (↑cs.length : Int) then (5000 : Int) else (↑cs.length : Int)).toNat * 1) (List.drop 0 (u32s cs))) && ((0 + (if (5000 : Int) < (↑cs.length : Int) then (5000 : Int) else (↑cs.length : Int)).toNat) * 4).ble 1099511627776 && (0 + (if (5000 : Int) < (↑cs.length : Int) then (5000 : Int) else (↑cs.length : Int)).toNat).blt 4611686018427387904 then bif hasN (0 + (if (5000 : Int) < (↑cs.length : Int) then (5000 : Int) else (↑cs.length : Int)).toNat * 1) (u32s cs) then bif decide ((0 : Int) ≤ if (5000 : Int) < (↑cs.length : Int) then (5000 : Int) else (↑cs.length : Int)) && decide ((if (5000 : Int) < (↑cs.length : Int) then (5000 : Int) else (↑cs.length : Int)) ≤ (↑cs.length : Int)) then True else False else False else False else False else False else False else False : St }) := by kernel_rfl
theorem own_len (pages : Int) (stack : Int) (types : Int) (data : List UInt8) (cs : List Nat) (rs : List Rl) (starts : List Nat) : evF Try.prog noBase noLoop 100 10 9 [Value.agg { toList := [Value.int IntKind.i64 pages, Value.int IntKind.i64 stack, Value.int IntKind.i64 types, Value.slice (some { block := 64, off := 0 }) cs.length (big + 64), Value.string { data := { toList := data : Array UInt8 } : ByteArray }, Value.slice (some { block := 65, off := 0, spot := some 65 }) 0 (big + 65), Value.slice none 0 0] }] { n := 67, h := [(64, { rw := false, op := some (0, 0), cells := u32s cs, it := none : Sy.Blk })], lo := [(64, cs.length), (65, 0), (66, 0)], esc := 0, T := [], k := 0, O := True : St } = some (Value.agg { toList := [Value.int IntKind.i64 pages, Value.int IntKind.i64 stack, Value.int IntKind.i64 types, Value.slice (some { block := 70, off := 0 }) (0 + (if (5000 : Int) < (↑cs.length : Int) then (5000 : Int) else (↑cs.length : Int)).toNat) 9223372036854775878, Value.string { data := { toList := List.take ((if (20000 : Int) < (↑(lenT data) : Int) then (20000 : Int) else (↑(lenT data) : Int)).toNat - 0) (List.drop 0 data) : Array UInt8 } : ByteArray }, Value.slice (some { block := 72, off := 0 }) 0 9223372036854775880, Value.slice (some { block := 74, off := 0 }) 0 9223372036854775882] }, { n := 75, h := [(74, { rw := true, op := some (74, 1), cells := [], it := none : Sy.Blk }), (72, { rw := true, op := some (72, 6), cells := [], it := none : Sy.Blk }), (70, { rw := true, op := some (70, 1), cells := List.take ((if (5000 : Int) < (↑cs.length : Int) then (5000 : Int) else (↑cs.length : Int)).toNat * 1) (List.drop 0 (u32s cs)), it := none : Sy.Blk }), (68, { rw := true, op := none, cells := [Value.int IntKind.i64 pages, Value.int IntKind.i64 stack, Value.int IntKind.i64 types, Value.slice (some { block := 70, off := 0 }) (0 + (if (5000 : Int) < (↑cs.length : Int) then (5000 : Int) else (↑cs.length : Int)).toNat) 9223372036854775878, Value.string { data := { toList := List.take ((if (20000 : Int) < (↑(lenT data) : Int) then (20000 : Int) else (↑(lenT data) : Int)).toNat - 0) (List.drop 0 data) : Array UInt8 } : ByteArray }, Value.slice (some { block := 72, off := 0 }) 0 9223372036854775880, Value.slice (some { block := 74, off := 0 }) 0 9223372036854775882], it := none : Sy.Blk }), (67, { rw := true, op := none, cells := [Value.int IntKind.i64 pages, Value.int IntKind.i64 stack, Value.int IntKind.i64 types, Value.slice (some { block := 70, off := 0 }) (0 + (if (5000 : Int) < (↑cs.length : Int) then (5000 : Int) else (↑cs.length : Int)).toNat) 9223372036854775878, Value.string { data := { toList := List.take ((if (20000 : Int) < (↑(lenT data) : Int) then (20000 : Int) else (↑(lenT data) : Int)).toNat - 0) (List.drop 0 data) : Array UInt8 } : ByteArray }, Value.slice (some { block := 72, off := 0 }) 0 9223372036854775880, Value.slice (some { block := 74, off := 0 }) 0 9223372036854775882], it := none : Sy.Blk }), (64, { rw := false, op := some (0, 0), cells := u32s cs, it := none : Sy.Blk })], lo := [(74, 0), (72, 0), (70, 0 + (if (5000 : Int) < (↑cs.length : Int) then (5000 : Int) else (↑cs.length : Int)).toNat), (64, cs.length), (65, 0), (66, 0)], esc := 0, T := [], k := 0, O := bif decide ((0 : Int) ≤ if (20000 : Int) < (↑(lenT data) : Int) then (20000 : Int) else (↑(lenT data) : Int)) && decide ((if (20000 : Int) < (↑(lenT data) : Int) then (20000 : Int) else (↑(lenT data) : Int)) ≤ (↑(lenT data) : Int)) then bif (lenT (List.take ((if (5000 : Int) < (↑cs.length : Int) then (5000 : Int) else (↑cs.length : Int)).toNat * 1) (List.drop 0 (u32s cs)))).beq ((if (5000 : Int) < (↑cs.length : Int) then (5000 : Int) else (↑cs.length : Int)).toNat * 1) && oneC (List.take ((if (5000 : Int) < (↑cs.length : Int) then (5000 : Int) else (↑cs.length : Int)).toNat * 1) (List.drop 0 (u32s cs))) && ((0 + (if (5000 : Int) < (↑cs.length : Int) then (5000 : Int) else (↑cs.length : Int)).toNat) * 4).ble 1099511627776 && (0 + (if (5000 : Int) < (↑cs.length : Int) then (5000 : Int) else (↑cs.length : Int)).toNat).blt 4611686018427387904 then bif hasN (0 + (if (5000 : Int) < (↑cs.length : Int) then (5000 : Int) else (↑cs.length : Int)).toNat * 1) (u32s cs) then bif decide ((0 : Int) ≤ if (5000 : Int) < (↑cs.length : Int) then (5000 : Int) else (↑cs.length : Int)) && decide ((if (5000 : Int) < (↑cs.length : Int) then (5000 : Int) else (↑cs.length : Int)) ≤ (↑cs.length : Int)) then True else False else False else False else False : St }) := by kernel_rfl
theorem own_lee (pages : Int) (stack : Int) (types : Int) (data : List UInt8) (cs : List Nat) (rs : List Rl) (starts : List Nat) : evF Try.prog noBase noLoop 100 10 9 [Value.agg { toList := [Value.int IntKind.i64 pages, Value.int IntKind.i64 stack, Value.int IntKind.i64 types, Value.slice (some { block := 64, off := 0 }) cs.length (big + 64), Value.string { data := { toList := data : Array UInt8 } : ByteArray }, Value.slice (some { block := 65, off := 0, spot := some 65 }) 0 (big + 65), Value.slice (some { block := 66, off := 0, spot := some 66 }) 0 (big + 66)] }] { n := 67, h := [(64, { rw := false, op := some (0, 0), cells := u32s cs, it := none : Sy.Blk })], lo := [(64, cs.length), (65, 0), (66, 0)], esc := 0, T := [], k := 0, O := True : St } = some (Value.agg { toList := [Value.int IntKind.i64 pages, Value.int IntKind.i64 stack, Value.int IntKind.i64 types, Value.slice (some { block := 70, off := 0 }) (0 + (if (5000 : Int) < (↑cs.length : Int) then (5000 : Int) else (↑cs.length : Int)).toNat) 9223372036854775878, Value.string { data := { toList := List.take ((if (20000 : Int) < (↑(lenT data) : Int) then (20000 : Int) else (↑(lenT data) : Int)).toNat - 0) (List.drop 0 data) : Array UInt8 } : ByteArray }, Value.slice (some { block := 72, off := 0 }) 0 9223372036854775880, Value.slice (some { block := 74, off := 0 }) 0 9223372036854775882] }, { n := 75, h := [(74, { rw := true, op := some (74, 1), cells := [], it := none : Sy.Blk }), (72, { rw := true, op := some (72, 6), cells := [], it := none : Sy.Blk }), (70, { rw := true, op := some (70, 1), cells := List.take ((if (5000 : Int) < (↑cs.length : Int) then (5000 : Int) else (↑cs.length : Int)).toNat * 1) (List.drop 0 (u32s cs)), it := none : Sy.Blk }), (68, { rw := true, op := none, cells := [Value.int IntKind.i64 pages, Value.int IntKind.i64 stack, Value.int IntKind.i64 types, Value.slice (some { block := 70, off := 0 }) (0 + (if (5000 : Int) < (↑cs.length : Int) then (5000 : Int) else (↑cs.length : Int)).toNat) 9223372036854775878, Value.string { data := { toList := List.take ((if (20000 : Int) < (↑(lenT data) : Int) then (20000 : Int) else (↑(lenT data) : Int)).toNat - 0) (List.drop 0 data) : Array UInt8 } : ByteArray }, Value.slice (some { block := 72, off := 0 }) 0 9223372036854775880, Value.slice (some { block := 74, off := 0 }) 0 9223372036854775882], it := none : Sy.Blk }), (67, { rw := true, op := none, cells := [Value.int IntKind.i64 pages, Value.int IntKind.i64 stack, Value.int IntKind.i64 types, Value.slice (some { block := 70, off := 0 }) (0 + (if (5000 : Int) < (↑cs.length : Int) then (5000 : Int) else (↑cs.length : Int)).toNat) 9223372036854775878, Value.string { data := { toList := List.take ((if (20000 : Int) < (↑(lenT data) : Int) then (20000 : Int) else (↑(lenT data) : Int)).toNat - 0) (List.drop 0 data) : Array UInt8 } : ByteArray }, Value.slice (some { block := 72, off := 0 }) 0 9223372036854775880, Value.slice (some { block := 74, off := 0 }) 0 9223372036854775882], it := none : Sy.Blk }), (64, { rw := false, op := some (0, 0), cells := u32s cs, it := none : Sy.Blk })], lo := [(74, 0), (72, 0), (70, 0 + (if (5000 : Int) < (↑cs.length : Int) then (5000 : Int) else (↑cs.length : Int)).toNat), (64, cs.length), (65, 0), (66, 0)], esc := 0, T := [], k := 0, O := bif decide ((0 : Int) ≤ if (20000 : Int) < (↑(lenT data) : Int) then (20000 : Int) else (↑(lenT data) : Int)) && decide ((if (20000 : Int) < (↑(lenT data) : Int) then (20000 : Int) else (↑(lenT data) : Int)) ≤ (↑(lenT data) : Int)) then bif (lenT (List.take ((if (5000 : Int) < (↑cs.length : Int) then (5000 : Int) else (↑cs.length : Int)).toNat * 1) (List.drop 0 (u32s cs)))).beq ((if (5000 : Int) < (↑cs.length : Int) then (5000 : Int) else (↑cs.length : Int)).toNat * 1) && oneC (List.take ((if (5000 : Int) < (↑cs.length : Int) then (5000 : Int) else (↑cs.length : Int)).toNat * 1) (List.drop 0 (u32s cs))) && ((0 + (if (5000 : Int) < (↑cs.length : Int) then (5000 : Int) else (↑cs.length : Int)).toNat) * 4).ble 1099511627776 && (0 + (if (5000 : Int) < (↑cs.length : Int) then (5000 : Int) else (↑cs.length : Int)).toNat).blt 4611686018427387904 then bif hasN (0 + (if (5000 : Int) < (↑cs.length : Int) then (5000 : Int) else (↑cs.length : Int)).toNat * 1) (u32s cs) then bif decide ((0 : Int) ≤ if (5000 : Int) < (↑cs.length : Int) then (5000 : Int) else (↑cs.length : Int)) && decide ((if (5000 : Int) < (↑cs.length : Int) then (5000 : Int) else (↑cs.length : Int)) ≤ (↑cs.length : Int)) then True else False else False else False else False : St }) := by kernel_rfl
theorem own_lel (pages : Int) (stack : Int) (types : Int) (data : List UInt8) (cs : List Nat) (rs : List Rl) (starts : List Nat) : evF Try.prog noBase noLoop 100 10 9 [Value.agg { toList := [Value.int IntKind.i64 pages, Value.int IntKind.i64 stack, Value.int IntKind.i64 types, Value.slice (some { block := 64, off := 0 }) cs.length (big + 64), Value.string { data := { toList := data : Array UInt8 } : ByteArray }, Value.slice (some { block := 65, off := 0, spot := some 65 }) 0 (big + 65), Value.slice (some { block := 66, off := 0 }) starts.length (big + 66)] }] { n := 67, h := [(64, { rw := false, op := some (0, 0), cells := u32s cs, it := none : Sy.Blk }), (66, { rw := false, op := some (0, 0), cells := u32s starts, it := none : Sy.Blk })], lo := [(64, cs.length), (65, 0), (66, starts.length)], esc := 0, T := [], k := 0, O := True : St } = some (Value.agg { toList := [Value.int IntKind.i64 pages, Value.int IntKind.i64 stack, Value.int IntKind.i64 types, Value.slice (some { block := 70, off := 0 }) (0 + (if (5000 : Int) < (↑cs.length : Int) then (5000 : Int) else (↑cs.length : Int)).toNat) 9223372036854775878, Value.string { data := { toList := List.take ((if (20000 : Int) < (↑(lenT data) : Int) then (20000 : Int) else (↑(lenT data) : Int)).toNat - 0) (List.drop 0 data) : Array UInt8 } : ByteArray }, Value.slice (some { block := 72, off := 0 }) 0 9223372036854775880, Value.slice (some { block := 74, off := 0 }) (0 + (if (6 : Int) < (↑starts.length : Int) then (6 : Int) else (↑starts.length : Int)).toNat) 9223372036854775882] }, { n := 75, h := [(74, { rw := true, op := some (74, 1), cells := List.take ((if (6 : Int) < (↑starts.length : Int) then (6 : Int) else (↑starts.length : Int)).toNat * 1) (List.drop 0 (u32s starts)), it := none : Sy.Blk }), (72, { rw := true, op := some (72, 6), cells := [], it := none : Sy.Blk }), (70, { rw := true, op := some (70, 1), cells := List.take ((if (5000 : Int) < (↑cs.length : Int) then (5000 : Int) else (↑cs.length : Int)).toNat * 1) (List.drop 0 (u32s cs)), it := none : Sy.Blk }), (68, { rw := true, op := none, cells := [Value.int IntKind.i64 pages, Value.int IntKind.i64 stack, Value.int IntKind.i64 types, Value.slice (some { block := 70, off := 0 }) (0 + (if (5000 : Int) < (↑cs.length : Int) then (5000 : Int) else (↑cs.length : Int)).toNat) 9223372036854775878, Value.string { data := { toList := List.take ((if (20000 : Int) < (↑(lenT data) : Int) then (20000 : Int) else (↑(lenT data) : Int)).toNat - 0) (List.drop 0 data) : Array UInt8 } : ByteArray }, Value.slice (some { block := 72, off := 0 }) 0 9223372036854775880, Value.slice (some { block := 74, off := 0 }) (0 + (if (6 : Int) < (↑starts.length : Int) then (6 : Int) else (↑starts.length : Int)).toNat) 9223372036854775882], it := none : Sy.Blk }), (67, { rw := true, op := none, cells := [Value.int IntKind.i64 pages, Value.int IntKind.i64 stack, Value.int IntKind.i64 types, Value.slice (some { block := 70, off := 0 }) (0 + (if (5000 : Int) < (↑cs.length : Int) then (5000 : Int) else (↑cs.length : Int)).toNat) 9223372036854775878, Value.string { data := { toList := List.take ((if (20000 : Int) < (↑(lenT data) : Int) then (20000 : Int) else (↑(lenT data) : Int)).toNat - 0) (List.drop 0 data) : Array UInt8 } : ByteArray }, Value.slice (some { block := 72, off := 0 }) 0 9223372036854775880, Value.slice (some { block := 74, off := 0 }) (0 + (if (6 : Int) < (↑starts.length : Int) then (6 : Int) else (↑starts.length : Int)).toNat) 9223372036854775882], it := none : Sy.Blk }), (64, { rw := false, op := some (0, 0), cells := u32s cs, it := none : Sy.Blk }), (66, { rw := false, op := some (0, 0), cells := u32s starts, it := none : Sy.Blk })], lo := [(74, 0 + (if (6 : Int) < (↑starts.length : Int) then (6 : Int) else (↑starts.length : Int)).toNat), (72, 0), (70, 0 + (if (5000 : Int) < (↑cs.length : Int) then (5000 : Int) else (↑cs.length : Int)).toNat), (64, cs.length), (65, 0), (66, starts.length)], esc := 0, T := [], k := 0, O := bif (lenT (List.take ((if (6 : Int) < (↑starts.length : Int) then (6 : Int) else (↑starts.length : Int)).toNat * 1) (List.drop 0 (u32s starts)))).beq ((if (6 : Int) < (↑starts.length : Int) then (6 : Int) else (↑starts.length : Int)).toNat * 1) && oneC (List.take ((if (6 : Int) < (↑starts.length : Int) then (6 : Int) else (↑starts.length : Int)).toNat * 1) (List.drop 0 (u32s starts))) && ((0 + (if (6 : Int) < (↑starts.length : Int) then (6 : Int) else (↑starts.length : Int)).toNat) * 4).ble 1099511627776 && (0 + (if (6 : Int) < (↑starts.length : Int) then (6 : Int) else (↑starts.length : Int)).toNat).blt 4611686018427387904 then bif hasN (0 + (if (6 : Int) < (↑starts.length : Int) then (6 : Int) else (↑starts.length : Int)).toNat * 1) (u32s starts) then bif decide ((0 : Int) ≤ if (6 : Int) < (↑starts.length : Int) then (6 : Int) else (↑starts.length : Int)) && decide ((if (6 : Int) < (↑starts.length : Int) then (6 : Int) else (↑starts.length : Int)) ≤ (↑starts.length : Int)) then bif decide ((0 : Int) ≤ if (20000 : Int) < (↑(lenT data) : Int) then (20000 : Int) else (↑(lenT data) : Int)) && decide ((if (20000 : Int) < (↑(lenT data) : Int) then (20000 : Int) else (↑(lenT data) : Int)) ≤ (↑(lenT data) : Int)) then bif (lenT (List.take ((if (5000 : Int) < (↑cs.length : Int) then (5000 : Int) else (↑cs.length : Int)).toNat * 1) (List.drop 0 (u32s cs)))).beq ((if (5000 : Int) < (↑cs.length : Int) then (5000 : Int) else (↑cs.length : Int)).toNat * 1) && oneC (List.take ((if (5000 : Int) < (↑cs.length : Int) then (5000 : Int) else (↑cs.length : Int)).toNat * 1) (List.drop 0 (u32s cs))) && ((0 + (if (5000 : Int) < (↑cs.length : Int) then (5000 : Int) else (↑cs.length : Int)).toNat) * 4).ble 1099511627776 && (0 + (if (5000 : Int) < (↑cs.length : Int) then (5000 : Int) else (↑cs.length : Int)).toNat).blt 4611686018427387904 then bif hasN (0 + (if (5000 : Int) < (↑cs.length : Int) then (5000 : Int) else (↑cs.length : Int)).toNat * 1) (u32s cs) then bif decide ((0 : Int) ≤ if (5000 : Int) < (↑cs.length : Int) then (5000 : Int) else (↑cs.length : Int)) && decide ((if (5000 : Int) < (↑cs.length : Int) then (5000 : Int) else (↑cs.length : Int)) ≤ (↑cs.length : Int)) then True else False else False else False else False else False else False else False : St }) := by kernel_rfl
theorem own_lln (pages : Int) (stack : Int) (types : Int) (data : List UInt8) (cs : List Nat) (rs : List Rl) (starts : List Nat) : evF Try.prog noBase noLoop 100 10 9 [Value.agg { toList := [Value.int IntKind.i64 pages, Value.int IntKind.i64 stack, Value.int IntKind.i64 types, Value.slice (some { block := 64, off := 0 }) cs.length (big + 64), Value.string { data := { toList := data : Array UInt8 } : ByteArray }, Value.slice (some { block := 65, off := 0 }) rs.length (big + 65), Value.slice none 0 0] }] { n := 67, h := [(64, { rw := false, op := some (0, 0), cells := u32s cs, it := none : Sy.Blk }), (65, { rw := false, op := some (0, 0), cells := rels rs, it := none : Sy.Blk })], lo := [(64, cs.length), (65, rs.length), (66, 0)], esc := 0, T := [], k := 0, O := True : St } = some (Value.agg { toList := [Value.int IntKind.i64 pages, Value.int IntKind.i64 stack, Value.int IntKind.i64 types, Value.slice (some { block := 70, off := 0 }) (0 + (if (5000 : Int) < (↑cs.length : Int) then (5000 : Int) else (↑cs.length : Int)).toNat) 9223372036854775878, Value.string { data := { toList := List.take ((if (20000 : Int) < (↑(lenT data) : Int) then (20000 : Int) else (↑(lenT data) : Int)).toNat - 0) (List.drop 0 data) : Array UInt8 } : ByteArray }, Value.slice (some { block := 72, off := 0 }) (0 + (if (300 : Int) < (↑rs.length : Int) then (300 : Int) else (↑rs.length : Int)).toNat) 9223372036854775880, Value.slice (some { block := 74, off := 0 }) 0 9223372036854775882] }, { n := 75, h := [(74, { rw := true, op := some (74, 1), cells := [], it := none : Sy.Blk }), (72, { rw := true, op := some (72, 6), cells := List.take ((if (300 : Int) < (↑rs.length : Int) then (300 : Int) else (↑rs.length : Int)).toNat * 6) (List.drop 0 (rels rs)), it := none : Sy.Blk }), (70, { rw := true, op := some (70, 1), cells := List.take ((if (5000 : Int) < (↑cs.length : Int) then (5000 : Int) else (↑cs.length : Int)).toNat * 1) (List.drop 0 (u32s cs)), it := none : Sy.Blk }), (68, { rw := true, op := none, cells := [Value.int IntKind.i64 pages, Value.int IntKind.i64 stack, Value.int IntKind.i64 types, Value.slice (some { block := 70, off := 0 }) (0 + (if (5000 : Int) < (↑cs.length : Int) then (5000 : Int) else (↑cs.length : Int)).toNat) 9223372036854775878, Value.string { data := { toList := List.take ((if (20000 : Int) < (↑(lenT data) : Int) then (20000 : Int) else (↑(lenT data) : Int)).toNat - 0) (List.drop 0 data) : Array UInt8 } : ByteArray }, Value.slice (some { block := 72, off := 0 }) (0 + (if (300 : Int) < (↑rs.length : Int) then (300 : Int) else (↑rs.length : Int)).toNat) 9223372036854775880, Value.slice (some { block := 74, off := 0 }) 0 9223372036854775882], it := none : Sy.Blk }), (67, { rw := true, op := none, cells := [Value.int IntKind.i64 pages, Value.int IntKind.i64 stack, Value.int IntKind.i64 types, Value.slice (some { block := 70, off := 0 }) (0 + (if (5000 : Int) < (↑cs.length : Int) then (5000 : Int) else (↑cs.length : Int)).toNat) 9223372036854775878, Value.string { data := { toList := List.take ((if (20000 : Int) < (↑(lenT data) : Int) then (20000 : Int) else (↑(lenT data) : Int)).toNat - 0) (List.drop 0 data) : Array UInt8 } : ByteArray }, Value.slice (some { block := 72, off := 0 }) (0 + (if (300 : Int) < (↑rs.length : Int) then (300 : Int) else (↑rs.length : Int)).toNat) 9223372036854775880, Value.slice (some { block := 74, off := 0 }) 0 9223372036854775882], it := none : Sy.Blk }), (64, { rw := false, op := some (0, 0), cells := u32s cs, it := none : Sy.Blk }), (65, { rw := false, op := some (0, 0), cells := rels rs, it := none : Sy.Blk })], lo := [(74, 0), (72, 0 + (if (300 : Int) < (↑rs.length : Int) then (300 : Int) else (↑rs.length : Int)).toNat), (70, 0 + (if (5000 : Int) < (↑cs.length : Int) then (5000 : Int) else (↑cs.length : Int)).toNat), (64, cs.length), (65, rs.length), (66, 0)], esc := 0, T := [], k := 0, O := bif (lenT (List.take ((if (300 : Int) < (↑rs.length : Int) then (300 : Int) else (↑rs.length : Int)).toNat * 6) (List.drop 0 (rels rs)))).beq ((if (300 : Int) < (↑rs.length : Int) then (300 : Int) else (↑rs.length : Int)).toNat * 6) && oneC (List.take ((if (300 : Int) < (↑rs.length : Int) then (300 : Int) else (↑rs.length : Int)).toNat * 6) (List.drop 0 (rels rs))) && ((0 + (if (300 : Int) < (↑rs.length : Int) then (300 : Int) else (↑rs.length : Int)).toNat) * 20).ble 1099511627776 && (0 + (if (300 : Int) < (↑rs.length : Int) then (300 : Int) else (↑rs.length : Int)).toNat).blt 4611686018427387904 then bif hasN (0 + (if (300 : Int) < (↑rs.length : Int) then (300 : Int) else (↑rs.length : Int)).toNat * 6) (rels rs) then bif decide ((0 : Int) ≤ if (300 : Int) < (↑rs.length : Int) then (300 : Int) else (↑rs.length : Int)) && decide ((if (300 : Int) < (↑rs.length : Int) then (300 : Int) else (↑rs.length : Int)) ≤ (↑rs.length : Int)) then bif decide ((0 : Int) ≤ if (20000 : Int) < (↑(lenT data) : Int) then (20000 : Int) else (↑(lenT data) : Int)) && decide ((if (20000 : Int) < (↑(lenT data) : Int) then (20000 : Int) else (↑(lenT data) : Int)) ≤ (↑(lenT data) : Int)) then bif (lenT (List.take ((if (5000 : Int) < (↑cs.length : Int) then (5000 : Int) else (↑cs.length : Int)).toNat * 1) (List.drop 0 (u32s cs)))).beq ((if (5000 : Int) < (↑cs.length : Int) then (5000 : Int) else (↑cs.length : Int)).toNat * 1) && oneC (List.take ((if (5000 : Int) < (↑cs.length : Int) then (5000 : Int) else (↑cs.length : Int)).toNat * 1) (List.drop 0 (u32s cs))) && ((0 + (if (5000 : Int) < (↑cs.length : Int) then (5000 : Int) else (↑cs.length : Int)).toNat) * 4).ble 1099511627776 && (0 + (if (5000 : Int) < (↑cs.length : Int) then (5000 : Int) else (↑cs.length : Int)).toNat).blt 4611686018427387904 then bif hasN (0 + (if (5000 : Int) < (↑cs.length : Int) then (5000 : Int) else (↑cs.length : Int)).toNat * 1) (u32s cs) then bif decide ((0 : Int) ≤ if (5000 : Int) < (↑cs.length : Int) then (5000 : Int) else (↑cs.length : Int)) && decide ((if (5000 : Int) < (↑cs.length : Int) then (5000 : Int) else (↑cs.length : Int)) ≤ (↑cs.length : Int)) then True else False else False else False else False else False else False else False : St }) := by kernel_rfl
theorem own_lle (pages : Int) (stack : Int) (types : Int) (data : List UInt8) (cs : List Nat) (rs : List Rl) (starts : List Nat) : evF Try.prog noBase noLoop 100 10 9 [Value.agg { toList := [Value.int IntKind.i64 pages, Value.int IntKind.i64 stack, Value.int IntKind.i64 types, Value.slice (some { block := 64, off := 0 }) cs.length (big + 64), Value.string { data := { toList := data : Array UInt8 } : ByteArray }, Value.slice (some { block := 65, off := 0 }) rs.length (big + 65), Value.slice (some { block := 66, off := 0, spot := some 66 }) 0 (big + 66)] }] { n := 67, h := [(64, { rw := false, op := some (0, 0), cells := u32s cs, it := none : Sy.Blk }), (65, { rw := false, op := some (0, 0), cells := rels rs, it := none : Sy.Blk })], lo := [(64, cs.length), (65, rs.length), (66, 0)], esc := 0, T := [], k := 0, O := True : St } = some (Value.agg { toList := [Value.int IntKind.i64 pages, Value.int IntKind.i64 stack, Value.int IntKind.i64 types, Value.slice (some { block := 70, off := 0 }) (0 + (if (5000 : Int) < (↑cs.length : Int) then (5000 : Int) else (↑cs.length : Int)).toNat) 9223372036854775878, Value.string { data := { toList := List.take ((if (20000 : Int) < (↑(lenT data) : Int) then (20000 : Int) else (↑(lenT data) : Int)).toNat - 0) (List.drop 0 data) : Array UInt8 } : ByteArray }, Value.slice (some { block := 72, off := 0 }) (0 + (if (300 : Int) < (↑rs.length : Int) then (300 : Int) else (↑rs.length : Int)).toNat) 9223372036854775880, Value.slice (some { block := 74, off := 0 }) 0 9223372036854775882] }, { n := 75, h := [(74, { rw := true, op := some (74, 1), cells := [], it := none : Sy.Blk }), (72, { rw := true, op := some (72, 6), cells := List.take ((if (300 : Int) < (↑rs.length : Int) then (300 : Int) else (↑rs.length : Int)).toNat * 6) (List.drop 0 (rels rs)), it := none : Sy.Blk }), (70, { rw := true, op := some (70, 1), cells := List.take ((if (5000 : Int) < (↑cs.length : Int) then (5000 : Int) else (↑cs.length : Int)).toNat * 1) (List.drop 0 (u32s cs)), it := none : Sy.Blk }), (68, { rw := true, op := none, cells := [Value.int IntKind.i64 pages, Value.int IntKind.i64 stack, Value.int IntKind.i64 types, Value.slice (some { block := 70, off := 0 }) (0 + (if (5000 : Int) < (↑cs.length : Int) then (5000 : Int) else (↑cs.length : Int)).toNat) 9223372036854775878, Value.string { data := { toList := List.take ((if (20000 : Int) < (↑(lenT data) : Int) then (20000 : Int) else (↑(lenT data) : Int)).toNat - 0) (List.drop 0 data) : Array UInt8 } : ByteArray }, Value.slice (some { block := 72, off := 0 }) (0 + (if (300 : Int) < (↑rs.length : Int) then (300 : Int) else (↑rs.length : Int)).toNat) 9223372036854775880, Value.slice (some { block := 74, off := 0 }) 0 9223372036854775882], it := none : Sy.Blk }), (67, { rw := true, op := none, cells := [Value.int IntKind.i64 pages, Value.int IntKind.i64 stack, Value.int IntKind.i64 types, Value.slice (some { block := 70, off := 0 }) (0 + (if (5000 : Int) < (↑cs.length : Int) then (5000 : Int) else (↑cs.length : Int)).toNat) 9223372036854775878, Value.string { data := { toList := List.take ((if (20000 : Int) < (↑(lenT data) : Int) then (20000 : Int) else (↑(lenT data) : Int)).toNat - 0) (List.drop 0 data) : Array UInt8 } : ByteArray }, Value.slice (some { block := 72, off := 0 }) (0 + (if (300 : Int) < (↑rs.length : Int) then (300 : Int) else (↑rs.length : Int)).toNat) 9223372036854775880, Value.slice (some { block := 74, off := 0 }) 0 9223372036854775882], it := none : Sy.Blk }), (64, { rw := false, op := some (0, 0), cells := u32s cs, it := none : Sy.Blk }), (65, { rw := false, op := some (0, 0), cells := rels rs, it := none : Sy.Blk })], lo := [(74, 0), (72, 0 + (if (300 : Int) < (↑rs.length : Int) then (300 : Int) else (↑rs.length : Int)).toNat), (70, 0 + (if (5000 : Int) < (↑cs.length : Int) then (5000 : Int) else (↑cs.length : Int)).toNat), (64, cs.length), (65, rs.length), (66, 0)], esc := 0, T := [], k := 0, O := bif (lenT (List.take ((if (300 : Int) < (↑rs.length : Int) then (300 : Int) else (↑rs.length : Int)).toNat * 6) (List.drop 0 (rels rs)))).beq ((if (300 : Int) < (↑rs.length : Int) then (300 : Int) else (↑rs.length : Int)).toNat * 6) && oneC (List.take ((if (300 : Int) < (↑rs.length : Int) then (300 : Int) else (↑rs.length : Int)).toNat * 6) (List.drop 0 (rels rs))) && ((0 + (if (300 : Int) < (↑rs.length : Int) then (300 : Int) else (↑rs.length : Int)).toNat) * 20).ble 1099511627776 && (0 + (if (300 : Int) < (↑rs.length : Int) then (300 : Int) else (↑rs.length : Int)).toNat).blt 4611686018427387904 then bif hasN (0 + (if (300 : Int) < (↑rs.length : Int) then (300 : Int) else (↑rs.length : Int)).toNat * 6) (rels rs) then bif decide ((0 : Int) ≤ if (300 : Int) < (↑rs.length : Int) then (300 : Int) else (↑rs.length : Int)) && decide ((if (300 : Int) < (↑rs.length : Int) then (300 : Int) else (↑rs.length : Int)) ≤ (↑rs.length : Int)) then bif decide ((0 : Int) ≤ if (20000 : Int) < (↑(lenT data) : Int) then (20000 : Int) else (↑(lenT data) : Int)) && decide ((if (20000 : Int) < (↑(lenT data) : Int) then (20000 : Int) else (↑(lenT data) : Int)) ≤ (↑(lenT data) : Int)) then bif (lenT (List.take ((if (5000 : Int) < (↑cs.length : Int) then (5000 : Int) else (↑cs.length : Int)).toNat * 1) (List.drop 0 (u32s cs)))).beq ((if (5000 : Int) < (↑cs.length : Int) then (5000 : Int) else (↑cs.length : Int)).toNat * 1) && oneC (List.take ((if (5000 : Int) < (↑cs.length : Int) then (5000 : Int) else (↑cs.length : Int)).toNat * 1) (List.drop 0 (u32s cs))) && ((0 + (if (5000 : Int) < (↑cs.length : Int) then (5000 : Int) else (↑cs.length : Int)).toNat) * 4).ble 1099511627776 && (0 + (if (5000 : Int) < (↑cs.length : Int) then (5000 : Int) else (↑cs.length : Int)).toNat).blt 4611686018427387904 then bif hasN (0 + (if (5000 : Int) < (↑cs.length : Int) then (5000 : Int) else (↑cs.length : Int)).toNat * 1) (u32s cs) then bif decide ((0 : Int) ≤ if (5000 : Int) < (↑cs.length : Int) then (5000 : Int) else (↑cs.length : Int)) && decide ((if (5000 : Int) < (↑cs.length : Int) then (5000 : Int) else (↑cs.length : Int)) ≤ (↑cs.length : Int)) then True else False else False else False else False else False else False else False : St }) := by kernel_rfl
theorem own_lll (pages : Int) (stack : Int) (types : Int) (data : List UInt8) (cs : List Nat) (rs : List Rl) (starts : List Nat) : evF Try.prog noBase noLoop 100 10 9 [Value.agg { toList := [Value.int IntKind.i64 pages, Value.int IntKind.i64 stack, Value.int IntKind.i64 types, Value.slice (some { block := 64, off := 0 }) cs.length (big + 64), Value.string { data := { toList := data : Array UInt8 } : ByteArray }, Value.slice (some { block := 65, off := 0 }) rs.length (big + 65), Value.slice (some { block := 66, off := 0 }) starts.length (big + 66)] }] { n := 67, h := [(64, { rw := false, op := some (0, 0), cells := u32s cs, it := none : Sy.Blk }), (65, { rw := false, op := some (0, 0), cells := rels rs, it := none : Sy.Blk }), (66, { rw := false, op := some (0, 0), cells := u32s starts, it := none : Sy.Blk })], lo := [(64, cs.length), (65, rs.length), (66, starts.length)], esc := 0, T := [], k := 0, O := True : St } = some (Value.agg { toList := [Value.int IntKind.i64 pages, Value.int IntKind.i64 stack, Value.int IntKind.i64 types, Value.slice (some { block := 70, off := 0 }) (0 + (if (5000 : Int) < (↑cs.length : Int) then (5000 : Int) else (↑cs.length : Int)).toNat) 9223372036854775878, Value.string { data := { toList := List.take ((if (20000 : Int) < (↑(lenT data) : Int) then (20000 : Int) else (↑(lenT data) : Int)).toNat - 0) (List.drop 0 data) : Array UInt8 } : ByteArray }, Value.slice (some { block := 72, off := 0 }) (0 + (if (300 : Int) < (↑rs.length : Int) then (300 : Int) else (↑rs.length : Int)).toNat) 9223372036854775880, Value.slice (some { block := 74, off := 0 }) (0 + (if (6 : Int) < (↑starts.length : Int) then (6 : Int) else (↑starts.length : Int)).toNat) 9223372036854775882] }, { n := 75, h := [(74, { rw := true, op := some (74, 1), cells := List.take ((if (6 : Int) < (↑starts.length : Int) then (6 : Int) else (↑starts.length : Int)).toNat * 1) (List.drop 0 (u32s starts)), it := none : Sy.Blk }), (72, { rw := true, op := some (72, 6), cells := List.take ((if (300 : Int) < (↑rs.length : Int) then (300 : Int) else (↑rs.length : Int)).toNat * 6) (List.drop 0 (rels rs)), it := none : Sy.Blk }), (70, { rw := true, op := some (70, 1), cells := List.take ((if (5000 : Int) < (↑cs.length : Int) then (5000 : Int) else (↑cs.length : Int)).toNat * 1) (List.drop 0 (u32s cs)), it := none : Sy.Blk }), (68, { rw := true, op := none, cells := [Value.int IntKind.i64 pages, Value.int IntKind.i64 stack, Value.int IntKind.i64 types, Value.slice (some { block := 70, off := 0 }) (0 + (if (5000 : Int) < (↑cs.length : Int) then (5000 : Int) else (↑cs.length : Int)).toNat) 9223372036854775878, Value.string { data := { toList := List.take ((if (20000 : Int) < (↑(lenT data) : Int) then (20000 : Int) else (↑(lenT data) : Int)).toNat - 0) (List.drop 0 data) : Array UInt8 } : ByteArray }, Value.slice (some { block := 72, off := 0 }) (0 + (if (300 : Int) < (↑rs.length : Int) then (300 : Int) else (↑rs.length : Int)).toNat) 9223372036854775880, Value.slice (some { block := 74, off := 0 }) (0 + (if (6 : Int) < (↑starts.length : Int) then (6 : Int) else (↑starts.length : Int)).toNat) 9223372036854775882], it := none : Sy.Blk }), (67, { rw := true, op := none, cells := [Value.int IntKind.i64 pages, Value.int IntKind.i64 stack, Value.int IntKind.i64 types, Value.slice (some { block := 70, off := 0 }) (0 + (if (5000 : Int) < (↑cs.length : Int) then (5000 : Int) else (↑cs.length : Int)).toNat) 9223372036854775878, Value.string { data := { toList := List.take ((if (20000 : Int) < (↑(lenT data) : Int) then (20000 : Int) else (↑(lenT data) : Int)).toNat - 0) (List.drop 0 data) : Array UInt8 } : ByteArray }, Value.slice (some { block := 72, off := 0 }) (0 + (if (300 : Int) < (↑rs.length : Int) then (300 : Int) else (↑rs.length : Int)).toNat) 9223372036854775880, Value.slice (some { block := 74, off := 0 }) (0 + (if (6 : Int) < (↑starts.length : Int) then (6 : Int) else (↑starts.length : Int)).toNat) 9223372036854775882], it := none : Sy.Blk }), (64, { rw := false, op := some (0, 0), cells := u32s cs, it := none : Sy.Blk }), (65, { rw := false, op := some (0, 0), cells := rels rs, it := none : Sy.Blk }), (66, { rw := false, op := some (0, 0), cells := u32s starts, it := none : Sy.Blk })], lo := [(74, 0 + (if (6 : Int) < (↑starts.length : Int) then (6 : Int) else (↑starts.length : Int)).toNat), (72, 0 + (if (300 : Int) < (↑rs.length : Int) then (300 : Int) else (↑rs.length : Int)).toNat), (70, 0 + (if (5000 : Int) < (↑cs.length : Int) then (5000 : Int) else (↑cs.length : Int)).toNat), (64, cs.length), (65, rs.length), (66, starts.length)], esc := 0, T := [], k := 0, O := bif (lenT (List.take ((if (6 : Int) < (↑starts.length : Int) then (6 : Int) else (↑starts.length : Int)).toNat * 1) (List.drop 0 (u32s starts)))).beq ((if (6 : Int) < (↑starts.length : Int) then (6 : Int) else (↑starts.length : Int)).toNat * 1) && oneC (List.take ((if (6 : Int) < (↑starts.length : Int) then (6 : Int) else (↑starts.length : Int)).toNat * 1) (List.drop 0 (u32s starts))) && ((0 + (if (6 : Int) < (↑starts.length : Int) then (6 : Int) else (↑starts.length : Int)).toNat) * 4).ble 1099511627776 && (0 + (if (6 : Int) < (↑starts.length : Int) then (6 : Int) else (↑starts.length : Int)).toNat).blt 4611686018427387904 then bif hasN (0 + (if (6 : Int) < (↑starts.length : Int) then (6 : Int) else (↑starts.length : Int)).toNat * 1) (u32s starts) then bif decide ((0 : Int) ≤ if (6 : Int) < (↑starts.length : Int) then (6 : Int) else (↑starts.length : Int)) && decide ((if (6 : Int) < (↑starts.length : Int) then (6 : Int) else (↑starts.length : Int)) ≤ (↑starts.length : Int)) then bif (lenT (List.take ((if (300 : Int) < (↑rs.length : Int) then (300 : Int) else (↑rs.length : Int)).toNat * 6) (List.drop 0 (rels rs)))).beq ((if (300 : Int) < (↑rs.length : Int) then (300 : Int) else (↑rs.length : Int)).toNat * 6) && oneC (List.take ((if (300 : Int) < (↑rs.length : Int) then (300 : Int) else (↑rs.length : Int)).toNat * 6) (List.drop 0 (rels rs))) && ((0 + (if (300 : Int) < (↑rs.length : Int) then (300 : Int) else (↑rs.length : Int)).toNat) * 20).ble 1099511627776 && (0 + (if (300 : Int) < (↑rs.length : Int) then (300 : Int) else (↑rs.length : Int)).toNat).blt 4611686018427387904 then bif hasN (0 + (if (300 : Int) < (↑rs.length : Int) then (300 : Int) else (↑rs.length : Int)).toNat * 6) (rels rs) then bif decide ((0 : Int) ≤ if (300 : Int) < (↑rs.length : Int) then (300 : Int) else (↑rs.length : Int)) && decide ((if (300 : Int) < (↑rs.length : Int) then (300 : Int) else (↑rs.length : Int)) ≤ (↑rs.length : Int)) then bif decide ((0 : Int) ≤ if (20000 : Int) < (↑(lenT data) : Int) then (20000 : Int) else (↑(lenT data) : Int)) && decide ((if (20000 : Int) < (↑(lenT data) : Int) then (20000 : Int) else (↑(lenT data) : Int)) ≤ (↑(lenT data) : Int)) then bif (lenT (List.take ((if (5000 : Int) < (↑cs.length : Int) then (5000 : Int) else (↑cs.length : Int)).toNat * 1) (List.drop 0 (u32s cs)))).beq ((if (5000 : Int) < (↑cs.length : Int) then (5000 : Int) else (↑cs.length : Int)).toNat * 1) && oneC (List.take ((if (5000 : Int) < (↑cs.length : Int) then (5000 : Int) else (↑cs.length : Int)).toNat * 1) (List.drop 0 (u32s cs))) && ((0 + (if (5000 : Int) < (↑cs.length : Int) then (5000 : Int) else (↑cs.length : Int)).toNat) * 4).ble 1099511627776 && (0 + (if (5000 : Int) < (↑cs.length : Int) then (5000 : Int) else (↑cs.length : Int)).toNat).blt 4611686018427387904 then bif hasN (0 + (if (5000 : Int) < (↑cs.length : Int) then (5000 : Int) else (↑cs.length : Int)).toNat * 1) (u32s cs) then bif decide ((0 : Int) ≤ if (5000 : Int) < (↑cs.length : Int) then (5000 : Int) else (↑cs.length : Int)) && decide ((if (5000 : Int) < (↑cs.length : Int) then (5000 : Int) else (↑cs.length : Int)) ≤ (↑cs.length : Int)) then True else False else False else False else False else False else False else False else False else False else False : St }) := by kernel_rfl
theorem works_run : RunY Try.prog 1000 30 11 = True := by kernel_rfl
theorem works_ok : ConOk Try.prog 11 3 (Con.pure [] (.bool true)) := runY_con i_names (by kernel_rfl) works_run
def selWk : SelC := fun f args _ =>
  match args with
  | [] => bif Nat.beq f 11 then some (Con.pure [] (.bool true), [], True) else none
  | _ => none
theorem selWk_ok : SelOk Try.prog 3 selWk := by
  intro f args s c ρ q h hq
  unfold selWk at h
  split at h
  · obtain ⟨h2, h⟩ := bif_some h
    have h2 := Nat.eq_of_beq_eq_true h2
    subst h2
    cases h
    exact works_ok
  · cases h
end Go.Proofs.Ytdljpnebpoaeiaa
namespace Go.Proofs.Ytdljpnebpoaeiaa
set_option linter.unusedVariables false
set_option linter.unusedSimpArgs false
open Go.RowKit
open Sy
set_option linter.unusedSimpArgs false
theorem take_u32s (n : Nat) (xs : List Nat) : List.take n (u32s xs) = u32s (xs.take n) := by unfold u32s; rw [List.map_take]
theorem take_rels : ∀ (n : Nat) (rs : List Rl), List.take (n * 6) (rels rs) = rels (rs.take n)
  | 0, rs => by simp [rels]
  | n + 1, [] => by simp [rels]
  | n + 1, x :: rs => by
    rw [rels_cons, List.take_succ_cons, rels_cons, List.take_append, List.take_of_length_le (by simp only [relC, List.length_cons, List.length_nil]; omega), show (relC x).length = 6 from rfl, show (n + 1) * 6 - 6 = n * 6 by omega, take_rels n rs]
theorem oneC_flat : ∀ {l : List Value}, (∀ v ∈ l, flat0 v = true) → oneC l = true
  | [], _ => rfl
  | v :: l, h => by
    have h1 := flat0_oneCell (h v (List.mem_cons_self ..))
    have h2 := oneC_flat fun u hu => h u (List.mem_cons_of_mem _ hu)
    unfold oneC at *
    simp only [List.all_cons, Bool.and_eq_true]
    exact ⟨h1, h2⟩
theorem cut_len {α : Type} (m : Nat) (l : List α) : (if ((m : Nat) : Int) < (l.length : Int) then ((m : Nat) : Int) else (l.length : Int)) = (((l.take m).length : Nat) : Int) := by
  rw [List.length_take]; split <;> omega
theorem take_take_len {α : Type} (m : Nat) (l : List α) : l.take (l.take m).length = l.take m := by
  rw [List.length_take, List.take_eq_take_iff]; omega
theorem ble_true {a b : Nat} (h : a ≤ b) : a.ble b = true := Nat.ble_eq_true_of_le h
theorem blt_true {a b : Nat} (h : a < b) : a.blt b = true := (Nat.blt_eq).mpr h
theorem occ1 (cs : List Nat) : (if (5000 : Int) < (cs.length : Int) then (5000 : Int) else (cs.length : Int)) = (((cs.take 5000).length : Nat) : Int) := cut_len 5000 cs
theorem occ2 (cs : List Nat) : List.take (cs.take 5000).length (u32s cs) = u32s (cs.take 5000) := by rw [take_u32s, take_take_len]
theorem occ3 (cs : List Nat) : (u32s (cs.take 5000)).length.beq (cs.take 5000).length = true := by rw [show (u32s (cs.take 5000)).length = (cs.take 5000).length from by simp [u32s]]; exact Nat.beq_refl _
theorem occ7 (cs : List Nat) : hasN (cs.take 5000).length (u32s cs) = true := by rw [u32s_has, decide_eq_true_eq, List.length_take]; omega
theorem occ4 (cs : List Nat) : oneC (u32s (cs.take 5000)) = true := oneC_flat (u32s_flat _)
theorem occ5 (cs : List Nat) : ((cs.take 5000).length * 4).ble 1099511627776 = true := ble_true (by rw [List.length_take]; omega)
theorem occ6 (cs : List Nat) : (cs.take 5000).length.blt 4611686018427387904 = true := blt_true (by rw [List.length_take]; omega)
theorem occ8 (cs : List Nat) : decide ((0 : Int) ≤ (((cs.take 5000).length : Nat) : Int)) = true := by simp
theorem occ9 (cs : List Nat) : decide ((((cs.take 5000).length : Nat) : Int) ≤ ((cs.length : Nat) : Int)) = true := by rw [decide_eq_true_eq, List.length_take]; omega
theorem ocr1 (rs : List Rl) : (if (300 : Int) < (rs.length : Int) then (300 : Int) else (rs.length : Int)) = (((rs.take 300).length : Nat) : Int) := cut_len 300 rs
theorem ocr2 (rs : List Rl) : List.take ((rs.take 300).length * 6) (rels rs) = rels (rs.take 300) := by rw [take_rels, take_take_len]
theorem ocr3 (rs : List Rl) : (rels (rs.take 300)).length.beq ((rs.take 300).length * 6) = true := by rw [rels_len]; exact Nat.beq_refl _
theorem ocr7 (rs : List Rl) : hasN ((rs.take 300).length * 6) (rels rs) = true := by rw [rels_has, decide_eq_true_eq, List.length_take]; omega
theorem ocr4 (rs : List Rl) : oneC (rels (rs.take 300)) = true := oneC_flat (rels_flat _)
theorem ocr5 (rs : List Rl) : ((rs.take 300).length * 20).ble 1099511627776 = true := ble_true (by rw [List.length_take]; omega)
theorem ocr6 (rs : List Rl) : (rs.take 300).length.blt 4611686018427387904 = true := blt_true (by rw [List.length_take]; omega)
theorem ocr8 (rs : List Rl) : decide ((0 : Int) ≤ (((rs.take 300).length : Nat) : Int)) = true := by simp
theorem ocr9 (rs : List Rl) : decide ((((rs.take 300).length : Nat) : Int) ≤ ((rs.length : Nat) : Int)) = true := by rw [decide_eq_true_eq, List.length_take]; omega
theorem ocs1 (starts : List Nat) : (if (6 : Int) < (starts.length : Int) then (6 : Int) else (starts.length : Int)) = (((starts.take 6).length : Nat) : Int) := cut_len 6 starts
theorem ocs2 (starts : List Nat) : List.take (starts.take 6).length (u32s starts) = u32s (starts.take 6) := by rw [take_u32s, take_take_len]
theorem ocs3 (starts : List Nat) : (u32s (starts.take 6)).length.beq (starts.take 6).length = true := by rw [show (u32s (starts.take 6)).length = (starts.take 6).length from by simp [u32s]]; exact Nat.beq_refl _
theorem ocs7 (starts : List Nat) : hasN (starts.take 6).length (u32s starts) = true := by rw [u32s_has, decide_eq_true_eq, List.length_take]; omega
theorem ocs4 (starts : List Nat) : oneC (u32s (starts.take 6)) = true := oneC_flat (u32s_flat _)
theorem ocs5 (starts : List Nat) : ((starts.take 6).length * 4).ble 1099511627776 = true := ble_true (by rw [List.length_take]; omega)
theorem ocs6 (starts : List Nat) : (starts.take 6).length.blt 4611686018427387904 = true := blt_true (by rw [List.length_take]; omega)
theorem ocs8 (starts : List Nat) : decide ((0 : Int) ≤ (((starts.take 6).length : Nat) : Int)) = true := by simp
theorem ocs9 (starts : List Nat) : decide ((((starts.take 6).length : Nat) : Int) ≤ ((starts.length : Nat) : Int)) = true := by rw [decide_eq_true_eq, List.length_take]; omega
theorem ocd1 (data : List UInt8) : (if (20000 : Int) < (data.length : Int) then (20000 : Int) else (data.length : Int)) = (((data.take 20000).length : Nat) : Int) := cut_len 20000 data
theorem ocd2 (data : List UInt8) : List.take (data.take 20000).length data = data.take 20000 := take_take_len _ _
theorem ocd8 (data : List UInt8) : decide ((0 : Int) ≤ (((data.take 20000).length : Nat) : Int)) = true := by simp
theorem ocd9 (data : List UInt8) : decide ((((data.take 20000).length : Nat) : Int) ≤ ((data.length : Nat) : Int)) = true := by rw [decide_eq_true_eq, List.length_take]; omega
def sl (k : Nat) (g n : Nat) : Value := match k with | 0 => .slice none 0 0 | 1 => .slice (some ⟨g, 0, some g⟩) 0 (big + g) | _ => .slice (some ⟨g, 0, none⟩) n (big + g)
def slH (k : Nat) (g : Nat) (cells : List Value) : Sy.Heap := match k with | 0 => [] | 1 => [] | _ => [(g, ⟨false, some (0, 0), cells, none⟩)]
def slOk (k n : Nat) : Prop := k ≤ 2 ∧ (k < 2 → n = 0)
def inV (i j k : Nat) (pages stack types : Int) (data : List UInt8) (cs : List Nat) (rs : List Rl) (starts : List Nat) : Value :=
  .agg ⟨[.int .i64 pages, .int .i64 stack, .int .i64 types, sl i 64 cs.length, .string ⟨⟨data⟩⟩, sl j 65 rs.length, sl k 66 starts.length]⟩
def inH (i j k : Nat) (cs : List Nat) (rs : List Rl) (starts : List Nat) : Sy.Heap := slH i 64 (u32s cs) ++ slH j 65 (rels rs) ++ slH k 66 (u32s starts)
def inLo (cs : List Nat) (rs : List Rl) (starts : List Nat) : List (Nat × Nat) := [(64, cs.length), (65, rs.length), (66, starts.length)]
def ownV (pages stack types : Int) (data : List UInt8) (cs : List Nat) (rs : List Rl) (starts : List Nat) (a b c : Nat) : Value :=
  .agg ⟨[.int .i64 pages, .int .i64 stack, .int .i64 types, .slice (some ⟨a, 0, none⟩) (cs.take 5000).length (big + a), .string ⟨⟨data.take 20000⟩⟩, .slice (some ⟨b, 0, none⟩) (rs.take 300).length (big + b), .slice (some ⟨c, 0, none⟩) (starts.take 6).length (big + c)]⟩
def ownH (cs : List Nat) (rs : List Rl) (starts : List Nat) (a b c : Nat) : Sy.Heap := [(c, ⟨true, some (c, 1), u32s (starts.take 6), none⟩), (b, ⟨true, some (b, 6), rels (rs.take 300), none⟩), (a, ⟨true, some (a, 1), u32s (cs.take 5000), none⟩)]
def ownC (v : Value) (h : Sy.Heap) (pages stack types : Int) (data : List UInt8) (cs : List Nat) (rs : List Rl) (starts : List Nat) : Con :=
  ⟨[v], 67, h, inLo cs rs starts, ownV pages stack types data cs rs starts 67 68 69, 70, ownH cs rs starts 67 68 69, []⟩
def owσ (l : Nat) : Nat := if l = 67 then 70 else if l = 68 then 72 else if l = 69 then 74 else l
theorem okH_append {q : Nat → Bool} : ∀ {a b : Sy.Heap}, OkH q a → OkH q b → OkH q (a ++ b)
  | [], _, _, h => h
  | _ :: _, _, h1, h2 => ⟨h1.1, okH_append h1.2 h2⟩
theorem slH_ok {q : Nat → Bool} (k : Nat) {g : Nat} {cells : List Value} (h1 : q g = true) (h2 : q 0 = true) (h3 : ∀ v ∈ cells, flat0 v = true) : OkH q (slH k g cells) := by
  unfold slH
  split
  · trivial
  · trivial
  · exact ⟨⟨h1, h2, flat_bnd h3⟩, trivial⟩
theorem in_wf (i j k : Nat) (pages stack types : Int) (data : List UInt8) (cs : List Nat) (rs : List Rl) (starts : List Nat) (hi : i ≤ 2) (hj : j ≤ 2) (hk : k ≤ 2) : (ownC (inV i j k pages stack types data cs rs starts) (inH i j k cs rs starts) pages stack types data cs rs starts).Wf 3 := by
  have h1 : OkH (fun l => Nat.blt l 67) (inH i j k cs rs starts) := okH_append (okH_append (slH_ok i (by decide) (by decide) (u32s_flat cs)) (slH_ok j (by decide) (by decide) (rels_flat rs))) (slH_ok k (by decide) (by decide) (u32s_flat starts))
  refine ⟨by show NG ≤ 67; decide, by show 67 ≤ 70; omega, h1, rfl, rfl, rfl, ?_, by kernel_rfl, fun x hx v hv => ?_⟩
  · obtain rfl | rfl | rfl : i = 0 ∨ i = 1 ∨ i = 2 := by omega
    all_goals obtain rfl | rfl | rfl : j = 0 ∨ j = 1 ∨ j = 2 := by omega
    all_goals obtain rfl | rfl | rfl : k = 0 ∨ k = 1 ∨ k = 2 := by omega
    all_goals kernel_rfl
  · simp only [ownC, ownH, List.mem_cons, List.not_mem_nil, or_false] at hx
    rcases hx with rfl | rfl | rfl
    · exact okV_flat0 (u32s_flat _ v hv) 3
    · exact okV_flat0 (rels_flat _ v hv) 3
    · exact okV_flat0 (u32s_flat _ v hv) 3
theorem own_any {i j k : Nat} {pages stack types : Int} {data : List UInt8} {cs : List Nat} {rs : List Rl} {starts : List Nat} {b1 b2 : Nat × Sy.Blk} {lo' : List (Nat × Nat)} {q : Prop}
    (h : evF Try.prog noBase noLoop 100 10 9 [inV i j k pages stack types data cs rs starts] ⟨67, inH i j k cs rs starts, inLo cs rs starts, 0, [], 0, True⟩ = some (ownV pages stack types data cs rs starts 70 72 74, ⟨75, (ownH cs rs starts 70 72 74) ++ b1 :: b2 :: inH i j k cs rs starts, lo', 0, [], 0, q⟩))
    (hq : q) (hi : i ≤ 2) (hj : j ≤ 2) (hk : k ≤ 2) : ConOk Try.prog 9 3 (ownC (inV i j k pages stack types data cs rs starts) (inH i j k cs rs starts) pages stack types data cs rs starts) := by
  refine conOk_run (run_ok (L := 100) i_names (noBase_ok _) (noLoop_ok _) 10) (in_wf i j k pages stack types data cs rs starts hi hj hk) (T := []) (p := fun l => Nat.blt l 70) (σ := owσ) h hq ?_
  refine ⟨fun l hl => ?_, ⟨⟨rfl, flat_all (u32s_flat _), rfl, rfl, rfl, trivial, (flat_map (u32s_flat _)).symm⟩, ⟨rfl, flat_all (rels_flat _), rfl, rfl, rfl, trivial, (flat_map (rels_flat _)).symm⟩, ⟨rfl, flat_all (u32s_flat _), rfl, rfl, rfl, trivial, (flat_map (u32s_flat _)).symm⟩, trivial⟩, rfl, trivial, ⟨by kernel_rfl, by kernel_rfl⟩, rfl, ⟨⟨rfl, rfl, flat_bnd (u32s_flat _)⟩, ⟨rfl, rfl, flat_bnd (rels_flat _)⟩, ⟨rfl, rfl, flat_bnd (u32s_flat _)⟩, trivial⟩, rfl, okV_bnd 3 _ (show okV (keeps 67 70 owσ (fun l => Nat.blt l 70)) 3 (ownV pages stack types data cs rs starts 67 68 69) = true from by kernel_rfl), fun x hx hrw => ?_⟩
  · have : NG ≤ 67 := by decide
    unfold owσ
    rw [if_neg (by omega), if_neg (by omega), if_neg (by omega)]
  · simp only [ownC, ownH, List.mem_cons, List.not_mem_nil, or_false] at hx
    rcases hx with rfl | rfl | rfl <;> cases hrw
theorem nil_of {α : Type} {l : List α} (h : l.length = 0) : l = [] := List.eq_nil_of_length_eq_zero h
theorem own_con (i j k : Nat) (pages stack types : Int) (data : List UInt8) (cs : List Nat) (rs : List Rl) (starts : List Nat) (hi : slOk i cs.length) (hj : slOk j rs.length) (hk : slOk k starts.length) :
    ConOk Try.prog 9 3 (ownC (inV i j k pages stack types data cs rs starts) (inH i j k cs rs starts) pages stack types data cs rs starts) := by
  obtain ⟨hi, ei⟩ := hi
  obtain ⟨hj, ej⟩ := hj
  obtain ⟨hk, ek⟩ := hk
  obtain rfl | rfl | rfl : i = 0 ∨ i = 1 ∨ i = 2 := by omega
  · obtain rfl := nil_of (ei (by omega))
    obtain rfl | rfl | rfl : j = 0 ∨ j = 1 ∨ j = 2 := by omega
    · obtain rfl := nil_of (ej (by omega))
      obtain rfl | rfl | rfl : k = 0 ∨ k = 1 ∨ k = 2 := by omega
      · obtain rfl := nil_of (ek (by omega))
        have hh := own_nnn pages stack types data [] [] []
        simp only [lenT_eq, List.drop_zero, Nat.zero_add, Nat.sub_zero, Nat.mul_one, Int.toNat_natCast, ocd1, ocd2, ocd8, ocd9, Bool.and_self, cond_true] at hh
        exact own_any hh trivial (by omega) (by omega) (by omega)
      · obtain rfl := nil_of (ek (by omega))
        have hh := own_nne pages stack types data [] [] []
        simp only [lenT_eq, List.drop_zero, Nat.zero_add, Nat.sub_zero, Nat.mul_one, Int.toNat_natCast, ocd1, ocd2, ocd8, ocd9, Bool.and_self, cond_true] at hh
        exact own_any hh trivial (by omega) (by omega) (by omega)
      · skip
        have hh := own_nnl pages stack types data [] [] starts
        simp only [lenT_eq, List.drop_zero, Nat.zero_add, Nat.sub_zero, Nat.mul_one, Int.toNat_natCast, ocd1, ocd2, ocd8, ocd9, ocs1, ocs2, ocs3, ocs4, ocs5, ocs6, ocs7, ocs8, ocs9, Bool.and_self, cond_true] at hh
        exact own_any hh trivial (by omega) (by omega) (by omega)
    · obtain rfl := nil_of (ej (by omega))
      obtain rfl | rfl | rfl : k = 0 ∨ k = 1 ∨ k = 2 := by omega
      · obtain rfl := nil_of (ek (by omega))
        have hh := own_nen pages stack types data [] [] []
        simp only [lenT_eq, List.drop_zero, Nat.zero_add, Nat.sub_zero, Nat.mul_one, Int.toNat_natCast, ocd1, ocd2, ocd8, ocd9, Bool.and_self, cond_true] at hh
        exact own_any hh trivial (by omega) (by omega) (by omega)
      · obtain rfl := nil_of (ek (by omega))
        have hh := own_nee pages stack types data [] [] []
        simp only [lenT_eq, List.drop_zero, Nat.zero_add, Nat.sub_zero, Nat.mul_one, Int.toNat_natCast, ocd1, ocd2, ocd8, ocd9, Bool.and_self, cond_true] at hh
        exact own_any hh trivial (by omega) (by omega) (by omega)
      · skip
        have hh := own_nel pages stack types data [] [] starts
        simp only [lenT_eq, List.drop_zero, Nat.zero_add, Nat.sub_zero, Nat.mul_one, Int.toNat_natCast, ocd1, ocd2, ocd8, ocd9, ocs1, ocs2, ocs3, ocs4, ocs5, ocs6, ocs7, ocs8, ocs9, Bool.and_self, cond_true] at hh
        exact own_any hh trivial (by omega) (by omega) (by omega)
    · skip
      obtain rfl | rfl | rfl : k = 0 ∨ k = 1 ∨ k = 2 := by omega
      · obtain rfl := nil_of (ek (by omega))
        have hh := own_nln pages stack types data [] rs []
        simp only [lenT_eq, List.drop_zero, Nat.zero_add, Nat.sub_zero, Nat.mul_one, Int.toNat_natCast, ocd1, ocd2, ocd8, ocd9, ocr1, ocr2, ocr3, ocr4, ocr5, ocr6, ocr7, ocr8, ocr9, Bool.and_self, cond_true] at hh
        exact own_any hh trivial (by omega) (by omega) (by omega)
      · obtain rfl := nil_of (ek (by omega))
        have hh := own_nle pages stack types data [] rs []
        simp only [lenT_eq, List.drop_zero, Nat.zero_add, Nat.sub_zero, Nat.mul_one, Int.toNat_natCast, ocd1, ocd2, ocd8, ocd9, ocr1, ocr2, ocr3, ocr4, ocr5, ocr6, ocr7, ocr8, ocr9, Bool.and_self, cond_true] at hh
        exact own_any hh trivial (by omega) (by omega) (by omega)
      · skip
        have hh := own_nll pages stack types data [] rs starts
        simp only [lenT_eq, List.drop_zero, Nat.zero_add, Nat.sub_zero, Nat.mul_one, Int.toNat_natCast, ocd1, ocd2, ocd8, ocd9, ocr1, ocr2, ocr3, ocr4, ocr5, ocr6, ocr7, ocr8, ocr9, ocs1, ocs2, ocs3, ocs4, ocs5, ocs6, ocs7, ocs8, ocs9, Bool.and_self, cond_true] at hh
        exact own_any hh trivial (by omega) (by omega) (by omega)
  · obtain rfl := nil_of (ei (by omega))
    obtain rfl | rfl | rfl : j = 0 ∨ j = 1 ∨ j = 2 := by omega
    · obtain rfl := nil_of (ej (by omega))
      obtain rfl | rfl | rfl : k = 0 ∨ k = 1 ∨ k = 2 := by omega
      · obtain rfl := nil_of (ek (by omega))
        have hh := own_enn pages stack types data [] [] []
        simp only [lenT_eq, List.drop_zero, Nat.zero_add, Nat.sub_zero, Nat.mul_one, Int.toNat_natCast, ocd1, ocd2, ocd8, ocd9, Bool.and_self, cond_true] at hh
        exact own_any hh trivial (by omega) (by omega) (by omega)
      · obtain rfl := nil_of (ek (by omega))
        have hh := own_ene pages stack types data [] [] []
        simp only [lenT_eq, List.drop_zero, Nat.zero_add, Nat.sub_zero, Nat.mul_one, Int.toNat_natCast, ocd1, ocd2, ocd8, ocd9, Bool.and_self, cond_true] at hh
        exact own_any hh trivial (by omega) (by omega) (by omega)
      · skip
        have hh := own_enl pages stack types data [] [] starts
        simp only [lenT_eq, List.drop_zero, Nat.zero_add, Nat.sub_zero, Nat.mul_one, Int.toNat_natCast, ocd1, ocd2, ocd8, ocd9, ocs1, ocs2, ocs3, ocs4, ocs5, ocs6, ocs7, ocs8, ocs9, Bool.and_self, cond_true] at hh
        exact own_any hh trivial (by omega) (by omega) (by omega)
    · obtain rfl := nil_of (ej (by omega))
      obtain rfl | rfl | rfl : k = 0 ∨ k = 1 ∨ k = 2 := by omega
      · obtain rfl := nil_of (ek (by omega))
        have hh := own_een pages stack types data [] [] []
        simp only [lenT_eq, List.drop_zero, Nat.zero_add, Nat.sub_zero, Nat.mul_one, Int.toNat_natCast, ocd1, ocd2, ocd8, ocd9, Bool.and_self, cond_true] at hh
        exact own_any hh trivial (by omega) (by omega) (by omega)
      · obtain rfl := nil_of (ek (by omega))
        have hh := own_eee pages stack types data [] [] []
        simp only [lenT_eq, List.drop_zero, Nat.zero_add, Nat.sub_zero, Nat.mul_one, Int.toNat_natCast, ocd1, ocd2, ocd8, ocd9, Bool.and_self, cond_true] at hh
        exact own_any hh trivial (by omega) (by omega) (by omega)
      · skip
        have hh := own_eel pages stack types data [] [] starts
        simp only [lenT_eq, List.drop_zero, Nat.zero_add, Nat.sub_zero, Nat.mul_one, Int.toNat_natCast, ocd1, ocd2, ocd8, ocd9, ocs1, ocs2, ocs3, ocs4, ocs5, ocs6, ocs7, ocs8, ocs9, Bool.and_self, cond_true] at hh
        exact own_any hh trivial (by omega) (by omega) (by omega)
    · skip
      obtain rfl | rfl | rfl : k = 0 ∨ k = 1 ∨ k = 2 := by omega
      · obtain rfl := nil_of (ek (by omega))
        have hh := own_eln pages stack types data [] rs []
        simp only [lenT_eq, List.drop_zero, Nat.zero_add, Nat.sub_zero, Nat.mul_one, Int.toNat_natCast, ocd1, ocd2, ocd8, ocd9, ocr1, ocr2, ocr3, ocr4, ocr5, ocr6, ocr7, ocr8, ocr9, Bool.and_self, cond_true] at hh
        exact own_any hh trivial (by omega) (by omega) (by omega)
      · obtain rfl := nil_of (ek (by omega))
        have hh := own_ele pages stack types data [] rs []
        simp only [lenT_eq, List.drop_zero, Nat.zero_add, Nat.sub_zero, Nat.mul_one, Int.toNat_natCast, ocd1, ocd2, ocd8, ocd9, ocr1, ocr2, ocr3, ocr4, ocr5, ocr6, ocr7, ocr8, ocr9, Bool.and_self, cond_true] at hh
        exact own_any hh trivial (by omega) (by omega) (by omega)
      · skip
        have hh := own_ell pages stack types data [] rs starts
        simp only [lenT_eq, List.drop_zero, Nat.zero_add, Nat.sub_zero, Nat.mul_one, Int.toNat_natCast, ocd1, ocd2, ocd8, ocd9, ocr1, ocr2, ocr3, ocr4, ocr5, ocr6, ocr7, ocr8, ocr9, ocs1, ocs2, ocs3, ocs4, ocs5, ocs6, ocs7, ocs8, ocs9, Bool.and_self, cond_true] at hh
        exact own_any hh trivial (by omega) (by omega) (by omega)
  · skip
    obtain rfl | rfl | rfl : j = 0 ∨ j = 1 ∨ j = 2 := by omega
    · obtain rfl := nil_of (ej (by omega))
      obtain rfl | rfl | rfl : k = 0 ∨ k = 1 ∨ k = 2 := by omega
      · obtain rfl := nil_of (ek (by omega))
        have hh := own_lnn pages stack types data cs [] []
        simp only [lenT_eq, List.drop_zero, Nat.zero_add, Nat.sub_zero, Nat.mul_one, Int.toNat_natCast, ocd1, ocd2, ocd8, ocd9, occ1, occ2, occ3, occ4, occ5, occ6, occ7, occ8, occ9, Bool.and_self, cond_true] at hh
        exact own_any hh trivial (by omega) (by omega) (by omega)
      · obtain rfl := nil_of (ek (by omega))
        have hh := own_lne pages stack types data cs [] []
        simp only [lenT_eq, List.drop_zero, Nat.zero_add, Nat.sub_zero, Nat.mul_one, Int.toNat_natCast, ocd1, ocd2, ocd8, ocd9, occ1, occ2, occ3, occ4, occ5, occ6, occ7, occ8, occ9, Bool.and_self, cond_true] at hh
        exact own_any hh trivial (by omega) (by omega) (by omega)
      · skip
        have hh := own_lnl pages stack types data cs [] starts
        simp only [lenT_eq, List.drop_zero, Nat.zero_add, Nat.sub_zero, Nat.mul_one, Int.toNat_natCast, ocd1, ocd2, ocd8, ocd9, occ1, occ2, occ3, occ4, occ5, occ6, occ7, occ8, occ9, ocs1, ocs2, ocs3, ocs4, ocs5, ocs6, ocs7, ocs8, ocs9, Bool.and_self, cond_true] at hh
        exact own_any hh trivial (by omega) (by omega) (by omega)
    · obtain rfl := nil_of (ej (by omega))
      obtain rfl | rfl | rfl : k = 0 ∨ k = 1 ∨ k = 2 := by omega
      · obtain rfl := nil_of (ek (by omega))
        have hh := own_len pages stack types data cs [] []
        simp only [lenT_eq, List.drop_zero, Nat.zero_add, Nat.sub_zero, Nat.mul_one, Int.toNat_natCast, ocd1, ocd2, ocd8, ocd9, occ1, occ2, occ3, occ4, occ5, occ6, occ7, occ8, occ9, Bool.and_self, cond_true] at hh
        exact own_any hh trivial (by omega) (by omega) (by omega)
      · obtain rfl := nil_of (ek (by omega))
        have hh := own_lee pages stack types data cs [] []
        simp only [lenT_eq, List.drop_zero, Nat.zero_add, Nat.sub_zero, Nat.mul_one, Int.toNat_natCast, ocd1, ocd2, ocd8, ocd9, occ1, occ2, occ3, occ4, occ5, occ6, occ7, occ8, occ9, Bool.and_self, cond_true] at hh
        exact own_any hh trivial (by omega) (by omega) (by omega)
      · skip
        have hh := own_lel pages stack types data cs [] starts
        simp only [lenT_eq, List.drop_zero, Nat.zero_add, Nat.sub_zero, Nat.mul_one, Int.toNat_natCast, ocd1, ocd2, ocd8, ocd9, occ1, occ2, occ3, occ4, occ5, occ6, occ7, occ8, occ9, ocs1, ocs2, ocs3, ocs4, ocs5, ocs6, ocs7, ocs8, ocs9, Bool.and_self, cond_true] at hh
        exact own_any hh trivial (by omega) (by omega) (by omega)
    · skip
      obtain rfl | rfl | rfl : k = 0 ∨ k = 1 ∨ k = 2 := by omega
      · obtain rfl := nil_of (ek (by omega))
        have hh := own_lln pages stack types data cs rs []
        simp only [lenT_eq, List.drop_zero, Nat.zero_add, Nat.sub_zero, Nat.mul_one, Int.toNat_natCast, ocd1, ocd2, ocd8, ocd9, occ1, occ2, occ3, occ4, occ5, occ6, occ7, occ8, occ9, ocr1, ocr2, ocr3, ocr4, ocr5, ocr6, ocr7, ocr8, ocr9, Bool.and_self, cond_true] at hh
        exact own_any hh trivial (by omega) (by omega) (by omega)
      · obtain rfl := nil_of (ek (by omega))
        have hh := own_lle pages stack types data cs rs []
        simp only [lenT_eq, List.drop_zero, Nat.zero_add, Nat.sub_zero, Nat.mul_one, Int.toNat_natCast, ocd1, ocd2, ocd8, ocd9, occ1, occ2, occ3, occ4, occ5, occ6, occ7, occ8, occ9, ocr1, ocr2, ocr3, ocr4, ocr5, ocr6, ocr7, ocr8, ocr9, Bool.and_self, cond_true] at hh
        exact own_any hh trivial (by omega) (by omega) (by omega)
      · skip
        have hh := own_lll pages stack types data cs rs starts
        simp only [lenT_eq, List.drop_zero, Nat.zero_add, Nat.sub_zero, Nat.mul_one, Int.toNat_natCast, ocd1, ocd2, ocd8, ocd9, occ1, occ2, occ3, occ4, occ5, occ6, occ7, occ8, occ9, ocr1, ocr2, ocr3, ocr4, ocr5, ocr6, ocr7, ocr8, ocr9, ocs1, ocs2, ocs3, ocs4, ocs5, ocs6, ocs7, ocs8, ocs9, Bool.and_self, cond_true] at hh
        exact own_any hh trivial (by omega) (by omega) (by omega)
end Go.Proofs.Ytdljpnebpoaeiaa
namespace Go.Proofs.Ytdljpnebpoaeiaa
open Go.ChangeShapes Go.WideShapes Go.ChangeAt Go.RowKit
open Go.ChangeMaps (open_string shut_string)
theorem own : ownKnob Try.prog.godebug = none := by kernel_rfl
theorem laidOut : laidOutB Try.prog = true := by kernel_rfl
section
variable {H : Type} {enc : TypeId × Value → H} {P : Program}
theorem post_of_below {f : Func} {s : ChangeSpec} {apart fresh handsOn again : Bool} {W W' : World} {args : Array Value} {v : Value} {ds gs : List (DataW H)} {before pa pv : List MemPlace}
    (hW : DataW.Whole enc P f.params.toList s.vars apart W args.toList ds gs before)
    (hres : ∀ (b : Nat) (sp : Nat → Bool) (hd : Bool), DataW.TrodAll enc P W' b sp hd f.resultTypes.toList (v.resultList f.resultTypes.size) (s.fn H (ds ++ gs)).results [])
    (hargs : ∀ sp : Nat → Bool, (∀ p ∈ before, sp p.block = true) → DataW.TrodAll enc P W' 0 sp true f.params.toList args.toList (s.fn H (ds ++ gs)).args pa)
    (hvars : ∀ sp : Nat → Bool, (∀ p ∈ before, sp p.block = true) → DataW.TrodVars enc P W' sp s.vars (s.fn H (ds ++ gs)).vars pv)
    (hps : before = pa ++ pv) (hb : Below W.heap.size W W')
    (hok : ∀ (j : Nat) (t : TypeId) (r : Value), f.resultTypes[j]? = some t → (v.resultList f.resultTypes.size)[j]? = some r → Value.okWide P W' .any 0 t r) :
    s.post enc P f apart fresh handsOn again W args v W' := by
  have hlt : ∀ p ∈ before, p.block < W.heap.size := fun p hp => hW.lt p hp
  have hold : ∀ p ∈ before, (fun b => decide (b < W.heap.size)) p.block = true := fun p hp => by simpa using hlt p hp
  refine ⟨ds, gs, before, [], pa, pv, hW, hres _ _ _, hargs _ hold, hvars _ hold, World.keptBut_mono (fun p hp => ⟨hp, ?_⟩) (hb.frame (· ∈ before)), fun _ => ?_⟩
  · rw [hps, List.mem_append] at hp
    exact Or.inr hp
  · obtain ⟨_, _, _, _, _, hz, hn⟩ := hW
    refine ⟨hok, _, _, ([] ++ pa) ++ pv, ⟨[] ++ pa, pv, trodAll_append (hargs _ (fun _ _ => rfl)) (hres _ _ _), hvars _ (fun _ _ => rfl), rfl, ?_, ?_⟩, ?_⟩
    · intro b off hp
      have hin : MemPlace.cell b off ∈ before := by rw [hps]; simpa using hp
      rw [hb.frozen (hlt _ hin)]
      exact hz b off hin
    · intro ha
      have := hn ha
      rw [hps] at this
      simpa using this
    · intro p hp _
      rw [hps]
      simpa using hp
theorem below_trodAll (hl : laidOutB P = true) {W W' : World} (hb : Below W.heap.size W W') {sp : Nat → Bool} : ∀ (ts : List TypeId) (vs : List Value) (ds : List (DataW H)) (ps : List MemPlace),
    (∀ t ∈ ts, P.readableRec t = true ∧ t < P.types.size) → DataW.TrodAll enc P W 0 (fun _ => true) true ts vs ds ps → (∀ x ∈ ps, x.block < W.heap.size) → (∀ x ∈ ps, sp x.block = true) →
    DataW.TrodAll enc P W' 0 sp true ts vs ds ps
  | [], [], [], _, _, h, _, _ => h
  | t :: ts, v :: vs, d :: ds, ps, ht, h, hlt, hs => by
    obtain ⟨p, q, h1, h2, rfl⟩ := h
    refine ⟨p, q, ?_, below_trodAll hl hb ts vs ds q (fun u hu => ht u (List.mem_cons_of_mem _ hu)) h2 (fun x hx => hlt x (List.mem_append_right _ hx)) (fun x hx => hs x (List.mem_append_right _ hx)), rfl⟩
    exact WideElems.Trod_stays hl (ht t (List.mem_cons_self ..)).1 (ht t (List.mem_cons_self ..)).2 h1 (fun x hx => hb.same (hlt x (List.mem_append_left _ hx))) (fun x hx => hs x (List.mem_append_left _ hx))
  | [], [], _ :: _, _, _, h, _, _ => h.elim
  | [], _ :: _, _, _, _, h, _, _ => h.elim
  | _ :: _, [], _, _, _, h, _, _ => h.elim
  | _ :: _, _ :: _, [], _, _, h, _, _ => h.elim
theorem trodAll_length {W : World} {base : Nat} {sp : Nat → Bool} {hd : Bool} : ∀ (ts : List TypeId) (vs : List Value) (ds : List (DataW H)) (ps : List MemPlace), DataW.TrodAll enc P W base sp hd ts vs ds ps → ds.length = ts.length
  | [], [], [], _, _ => rfl
  | _ :: ts, _ :: vs, _ :: ds, _, h => by
    obtain ⟨_, _, _, h2, _⟩ := h
    simp [trodAll_length ts vs ds _ h2]
  | [], [], _ :: _, _, h => h.elim
  | [], _ :: _, _, _, h => h.elim
  | _ :: _, [], _, _, h => h.elim
  | _ :: _, _ :: _, [], _, h => h.elim
end
theorem wf_u32 {n : Int} (h : (Lit.int .u32 n).wf = true) : 0 ≤ n ∧ n < 4294967296 := by
  have := bounds_u32 h; omega
theorem wf_u16 {n : Int} (h : (Lit.int .u16 n).wf = true) : 0 ≤ n ∧ n < 65536 := by
  have := bounds_u16 h; omega
def LawWalk (f : FuncId) (fn : Func) : Prop :=
  ∀ (H : Type) (enc : TypeId × Value → H) (W : World) (base : Nat) (args : Array Value) (ds : List (DataW H)) (p : List MemPlace),
    (∀ (j : Nat) t v, fn.params[j]? = some t → args[j]? = some v → Value.okWide Try.prog W .any base t v) →
    DataW.TrodAll enc Try.prog W 0 (fun _ => true) true fn.params.toList args.toList ds p →
    Calls Try.prog f args W fun e W' => e = .returned (.bool true) ∧ Below W.heap.size W W'
set_option maxRecDepth 100000 in
theorem law_lifted (f : FuncId) (fn : Func) (s : ChangeSpec) (conds : List PathCond) (hfn : Try.prog.funcs[f]? = some fn) (noInit : Try.prog.inits.idxOf? f = none)
    (hres : fn.resultTypes = #[4])
    (hvars : s.vars = []) (hspec : ∀ (H : Type) (ds : List (DataW H)), ds.length = fn.params.toList.length → (s.fn H (ds ++ [])).results = [.lit (.bool true)] ∧ (s.fn H (ds ++ [])).args = ds ∧ (s.fn H (ds ++ [])).vars = [])
    (hts : ∀ t ∈ fn.params.toList, Try.prog.readableRec t = true ∧ t < Try.prog.types.size)
    (walk : LawWalk f fn) (os : Os) (started : os.Started) (H : Type) (enc : TypeId × Value → H)
    (witness : ∃ (w : World) (tape : Tape) (i : Input), w.os = os ∧ (w.forCall tape i).Shaped Try.checked.prog ∧ i.vars = [] ∧ Input.okWide Try.checked.prog (w.forCall tape i) .any w.heap.size f i ∧
      s.pre6 enc Try.checked.prog fn conds false (w.forCall tape i).memory i.args ∧ ({} : Assume).holds Try.checked.prog (lone (Frame.enter Try.checked.prog f i.args .normal) [] (w.forCall tape i))) :
    ReturnsInHanded {} Try.checked os f .any (s.pre6 enc Try.prog fn conds false) (s.post enc Try.prog fn false true false false) := by
  refine returnsInHanded_of_change (C := Try.checked) own started noInit hfn witness ?_
  intro W base args ds gs before hval0 hW _ _
  have hW' := hW
  obtain ⟨p, q, hA, hV, rfl, _, _⟩ := hW
  rw [hvars] at hV
  obtain ⟨rfl, rfl⟩ := trodVars_none hV
  obtain ⟨e1, e2, e3⟩ := hspec H ds (trodAll_length _ _ _ _ hA)
  refine (walk H enc W base args ds p hval0 hA).mono fun e W' ⟨he, hg⟩ => ?_
  subst he
  refine ⟨_, rfl, post_of_below (pa := p) (pv := []) hW' (fun b sp hd => ?_) (fun sp hsp => ?_) (fun sp _ => ?_) rfl hg ?_⟩
  · rw [e1, hres]
    exact trodAll_mk1 (shut_bool Try.underlying4 _)
  · rw [e2]
    exact below_trodAll laidOut hg _ _ _ _ hts hA (fun x hx => hW'.lt x (List.mem_append_left _ hx)) (fun x hx => hsp x (List.mem_append_left _ hx))
  · rw [e3, hvars]; rfl
  · exact ok_one hres rfl (okWide_bool_mk Try.underlying4 _)
end Go.Proofs.Ytdljpnebpoaeiaa
namespace Go.Proofs.Ytdljpnebpoaeiaa
set_option linter.unusedVariables false
set_option linter.unusedSimpArgs false
open Go.ChangeShapes Go.WideShapes Go.Deep
section
variable {H : Type} {enc : TypeId × Value → H} {P : Program} {w : World} {base : Nat} {spare : Nat → Bool} {held : Bool}
theorem open_slice_fields {t e : TypeId} {fs : Array Field} {fuel : Nat} {cs : List Value} {x : DataW H × List MemPlace} (ht : P.underlying t = some (.slice e)) (he : P.underlying e = some (.struct fs))
    (hone : oneCellFields P fs = true) (hC : P.cellsOf e = fs.size) (h : DataW.trod enc P w base spare held fuel t cs = some x) :
    (cs = [.slice none 0 0] ∧ x = (.nil, [])) ∨
    ∃ (a : Addr) (len cap m : Nat) (D : Nat → DataW H) (Pl : Nat → List MemPlace), cs = [.slice (some a) len cap] ∧ base ≤ a.block ∧ len ≤ cap ∧ cap ≤ maxLen ∧ m = (if spare a.block then cap else len) ∧
      x = (.slice ((List.range len).map D) ((List.range (m - len)).map fun j => D (len + j)), MemPlace.row a (m * fs.size) ++ (List.range m).flatMap Pl) ∧
      ∀ i, i < m → ∃ (ys : List (DataW H × List MemPlace)) (n : Nat), D i = .agg (ys.map (·.1)) ∧ Pl i = ys.flatMap (·.2) ∧ ys.length = fs.size ∧
        ∀ (j : Nat) (f : Field), fs[j]? = some f → ∃ (v : Value) (y : DataW H × List MemPlace), w.cell? (a.add (i * fs.size + j)) = some v ∧ ys[j]? = some y ∧ DataW.trod enc P w base spare held n f.type [v] = some y := by
  rcases open_slice ht h with h0 | ⟨a, len, cap, m, n, D, Pl, hcs, hb, hl, hm, hmm, hx, hi⟩
  · exact .inl h0
  · refine .inr ⟨a, len, cap, m, D, Pl, hcs, hb, hl, hm, hmm, by rw [hC] at hx; exact hx, fun i him => ?_⟩
    obtain ⟨cs', hc, ht'⟩ := hi i him
    rw [hC] at hc
    obtain ⟨ys, n', hn', hy, hlen, hyl, hf⟩ := DataW.trod_struct he ht'
    obtain ⟨_, hcl, hat⟩ := World.cells?_some hc
    simp only [Prod.mk.injEq] at hy
    refine ⟨ys, n', hy.1, hy.2, hyl, fun j f hj => ?_⟩
    obtain ⟨ho, hk⟩ := hone_of hone j f hj
    have hjl : j < fs.size := (Array.getElem?_eq_some_iff.1 hj).1
    have hcell := hat j hjl
    have hv : cs'[j]? = some (cs'[j]'(by omega)) := List.getElem?_eq_getElem (by omega)
    have h1 := hf j f hj
    rw [ho, hk] at h1
    have hone' : (cs'.drop j).take 1 = [cs'[j]'(by omega)] := by
      rw [List.drop_eq_getElem_cons (by omega)]
      rfl
    rw [hone'] at h1
    have hys : ys[j]? = some (ys[j]'(by omega)) := List.getElem?_eq_getElem (by omega)
    refine ⟨_, _, ?_, hys, h1.trans hys⟩
    rw [← Go.Deep.add_add, hcell, hv]
end
end Go.Proofs.Ytdljpnebpoaeiaa
namespace Go.Proofs.Ytdljpnebpoaeiaa
set_option linter.unusedVariables false
set_option linter.unusedSimpArgs false
open Go.ChangeShapes Go.WideShapes Go.Deep Go.RowKit
section
variable {H : Type} {enc : TypeId × Value → H} {P : Program} {w : World} {base : Nat} {spare : Nat → Bool} {held : Bool}
theorem open_agg_all {r : Reach} {b0 : Nat} {t : TypeId} {fs : Array Field} {v : Value} {d : DataW H} {p : List MemPlace} (hs : P.underlying t = some (.struct fs)) (hone : oneCellFields P fs = true) (hC : P.cellsOf t = fs.size)
    (hv : Value.okWide P w r b0 t v) (h : DataW.Trod enc P w base spare held t v d p) :
    ∃ cs : List Value, v = .agg cs.toArray ∧ cs.length = fs.size ∧ ∀ (j : Nat) (f : Field), fs[j]? = some f → ∃ (u : Value) (y : DataW H × List MemPlace) (n : Nat), cs[j]? = some u ∧ DataW.trod enc P w base spare held n f.type [u] = some y := by
  obtain ⟨cs, rfl, hsz⟩ := okWide_struct hs hv
  obtain ⟨l⟩ := cs
  refine ⟨l, rfl, hsz.trans hC, fun j f hj => ?_⟩
  obtain ⟨fuel, hf⟩ := h
  obtain ⟨xs, n, _, hx, _, hlen, hg⟩ := DataW.trod_struct hs hf
  obtain ⟨o, k⟩ := hone_of hone j f hj
  have hjl : j < fs.size := (Array.getElem?_eq_some_iff.1 hj).1
  have hl : l.length = fs.size := hsz.trans hC
  have h1 := hg j f hj
  rw [o, k] at h1
  simp only [Value.cells] at h1
  have hone' : (l.drop j).take 1 = [l[j]'(by omega)] := by
    rw [List.drop_eq_getElem_cons (by omega)]
    rfl
  rw [hone'] at h1
  exact ⟨l[j]'(by omega), xs[j]'(by omega), n, List.getElem?_eq_getElem (by omega), h1.trans (List.getElem?_eq_getElem (by omega))⟩
end
end Go.Proofs.Ytdljpnebpoaeiaa
namespace Go.Proofs.Ytdljpnebpoaeiaa
set_option linter.unusedVariables false
set_option linter.unusedSimpArgs false
open Go.ChangeShapes Go.WideShapes Go.Deep Go.RowKit
open Sy
structure SlIs (W : World) (v : Value) (k : Nat) (cells : List Value) (n B O C : Nat) (S : Option Nat) : Prop where
  is : v = (match k with | 0 => .slice none 0 0 | 1 => .slice (some ⟨B, O, S⟩) 0 C | _ => .slice (some ⟨B, O, none⟩) n C)
  ok : slOk k n
  le : n ≤ C
  at_ : 2 ≤ k → ∃ arr ty fr, W.heap[B]? = some (.cells arr ty fr) ∧ O + cells.length ≤ arr.size ∧ ∀ j v, cells[j]? = some v → arr[O + j]? = some v
section
variable {H : Type} {enc : TypeId × Value → H} {P : Program} {W : World} {base : Nat} {spare : Nat → Bool} {held : Bool}
theorem cell_is {a : Addr} {v : Value} (h : W.cell? a = some v) : ∃ arr ty fr, W.heap[a.block]? = some (.cells arr ty fr) ∧ arr[a.off]? = some v ∧ a.spot = none := by
  have hs := World.cell?_spot h
  unfold World.cell? at h
  split at h
  · rename_i c t f hb
    rw [hs] at h
    exact ⟨c, t, f, hb, by simpa using h, hs⟩
  · cases h
theorem add_off {a : Addr} (h : a.spot = none) (i : Nat) : (a.add i).block = a.block ∧ (a.add i).off = a.off + i := by
  obtain ⟨b, o, s⟩ := a
  subst h
  unfold Addr.add
  split <;> simp_all
theorem row_is {a : Addr} {cells : List Value} (h0 : 0 < cells.length) (h : ∀ i v, cells[i]? = some v → W.cell? (a.add i) = some v) : a.spot = none ∧ ∃ arr ty fr, W.heap[a.block]? = some (.cells arr ty fr) ∧ a.off + cells.length ≤ arr.size ∧ ∀ j v, cells[j]? = some v → arr[a.off + j]? = some v := by
  have h1 := h 0 _ (List.getElem?_eq_getElem h0)
  rw [show a.add 0 = a by unfold Addr.add; simp] at h1
  obtain ⟨arr, ty, fr, q1, q2, q3⟩ := cell_is h1
  have hat : ∀ j v, cells[j]? = some v → arr[a.off + j]? = some v := fun j v hj => by
    obtain ⟨arr', ty', fr', p1, p2, _⟩ := cell_is (h j v hj)
    obtain ⟨e1, e2⟩ := add_off q3 j
    rw [e1, q1] at p1
    cases p1
    rw [e2] at p2
    exact p2
  refine ⟨q3, arr, ty, fr, q1, ?_, hat⟩
  have := hat (cells.length - 1) _ (List.getElem?_eq_getElem (by omega))
  have := (Array.getElem?_eq_some_iff.1 this).1
  omega
theorem u32_slice {t e : TypeId} {fuel : Nat} {u : Value} {x : DataW H × List MemPlace} (ht : P.underlying t = some (.slice e)) (he : P.underlying e = some (.int .u32)) (hc : P.cellsOf e = 1)
    (h : DataW.trod enc P W base spare held fuel t [u] = some x) : ∃ (k : Nat) (xs : List Nat) (B O C : Nat) (S : Option Nat), SlIs W u k (u32s xs) xs.length B O C S ∧ ∀ y ∈ xs, y < 4294967296 := by
  rcases open_ints ht he hc h with ⟨h1, _⟩ | ⟨a, len, cap, zs, h1, _, hl, _, hz, _, hcell, hw⟩
  · simp only [List.cons.injEq, and_true] at h1
    exact ⟨0, [], 0, 0, 0, none, ⟨h1, ⟨by omega, fun _ => rfl⟩, Nat.le_refl _, fun h => by omega⟩, fun y hy => by cases hy⟩
  · simp only [List.cons.injEq, and_true] at h1
    subst h1
    have hlz : len ≤ zs.length := by rw [hz]; split <;> omega
    by_cases h0 : len = 0
    · subst h0
      obtain ⟨b, o, s⟩ := a
      exact ⟨1, [], b, o, cap, s, ⟨rfl, ⟨by omega, fun _ => rfl⟩, Nat.zero_le _, fun h => by omega⟩, fun y hy => by cases hy⟩
    · have hlen : ((zs.take len).map Int.toNat).length = len := by simp; omega
      have hget : ∀ i v, (u32s ((zs.take len).map Int.toNat))[i]? = some v → W.cell? (a.add i) = some v := by
        intro i v hv
        unfold u32s at hv
        rw [List.getElem?_map, List.getElem?_map, List.getElem?_take] at hv
        split at hv
        · rename_i hi
          rw [List.getElem?_eq_getElem (by omega)] at hv
          simp only [Option.map_some, Option.some.injEq] at hv
          have h2 := hcell i (by omega)
          have h3 : zs.getD i 0 = zs[i]'(by omega) := by rw [List.getD_eq_getElem?_getD, List.getElem?_eq_getElem (by omega)]; rfl
          rw [h3] at h2
          have h4 := wf_u32 (hw _ (List.getElem_mem (by omega : i < zs.length)))
          rw [h2, ← hv]
          congr 2
          exact (Int.toNat_of_nonneg h4.1).symm
        · cases hv
      have hul : (u32s ((zs.take len).map Int.toNat)).length = len := by unfold u32s; rw [List.length_map]; exact hlen
      obtain ⟨hs, hrow⟩ := row_is (a := a) (cells := u32s ((zs.take len).map Int.toNat)) (by omega) hget
      obtain ⟨b, o, s⟩ := a
      simp only at hs
      subst hs
      refine ⟨2, (zs.take len).map Int.toNat, b, o, cap, none, ⟨by rw [hlen]; rfl, ⟨by omega, fun h => by omega⟩, by rw [hlen]; exact hl, fun _ => hrow⟩, fun y hy => ?_⟩
      obtain ⟨z, hz', rfl⟩ := List.mem_map.1 hy
      have h4 := wf_u32 (hw z (List.mem_of_mem_take hz'))
      omega
end
instance : Inhabited Rl := ⟨⟨0, false, 0, 0, 0, 0⟩⟩
theorem rels_at : ∀ (rs : List Rl) (i j : Nat), i < rs.length → j < 6 → (rels rs)[i * 6 + j]? = (relC (rl0 rs i))[j]?
  | [], i, j, h, _ => by simp at h
  | x :: rs, 0, j, _, hj => by
    rw [rels_cons, List.getElem?_append_left (by simp only [relC, List.length_cons, List.length_nil]; omega)]
    simp [rl0]
  | x :: rs, i + 1, j, h, hj => by
    have hl : (relC x).length = 6 := rfl
    rw [rels_cons, List.getElem?_append_right (by rw [hl]; omega), hl, show (i + 1) * 6 + j - 6 = i * 6 + j by omega, rels_at rs i j (by simpa using h) hj]
    rfl
section
variable {H : Type} {enc : TypeId × Value → H} {W : World} {base : Nat} {spare : Nat → Bool} {held : Bool}
theorem rel_slice {fuel : Nat} {u : Value} {x : DataW H × List MemPlace} (h : DataW.trod enc Try.prog W base spare held fuel 23 [u] = some x) :
    ∃ (k : Nat) (rs : List Rl) (B O C : Nat) (S : Option Nat), SlIs W u k (rels rs) rs.length B O C S ∧ ∀ y ∈ rs, RlOk y := by
  rcases open_slice_fields Try.underlying23 Try.underlying50 (by kernel_rfl) (by kernel_rfl) h with ⟨h1, _⟩ | ⟨a, len, cap, m, D, Pl, h1, _, hl, _, hm, _, hi⟩
  · simp only [List.cons.injEq, and_true] at h1
    exact ⟨0, [], 0, 0, 0, none, ⟨h1, ⟨by omega, fun _ => rfl⟩, Nat.le_refl _, fun h => by omega⟩, fun y hy => by cases hy⟩
  · simp only [List.cons.injEq, and_true] at h1
    subst h1
    have hlm : len ≤ m := by rw [hm]; split <;> omega
    by_cases h0 : len = 0
    · subst h0
      obtain ⟨b, o, s⟩ := a
      exact ⟨1, [], b, o, cap, s, ⟨rfl, ⟨by omega, fun _ => rfl⟩, Nat.zero_le _, fun h => by omega⟩, fun y hy => by cases hy⟩
    · obtain ⟨R, hR⟩ := choose_lt (n := len) (α := Rl) (p := fun i r => RlOk r ∧ ∀ j v, (relC r)[j]? = some v → W.cell? (a.add (i * 6 + j)) = some v) (fun i hil => by
        obtain ⟨ys, n, _, _, _, hf⟩ := hi i (by omega)
        obtain ⟨v0, y0, c0, _, t0⟩ := hf 0 _ rfl
        obtain ⟨v1, y1, c1, _, t1⟩ := hf 1 _ rfl
        obtain ⟨v2, y2, c2, _, t2⟩ := hf 2 _ rfl
        obtain ⟨v3, y3, c3, _, t3⟩ := hf 3 _ rfl
        obtain ⟨v4, y4, c4, _, t4⟩ := hf 4 _ rfl
        obtain ⟨v5, y5, c5, _, t5⟩ := hf 5 _ rfl
        obtain ⟨n0, e0, _, w0⟩ := DataW.trod_int Try.underlying27 t0
        obtain ⟨n1, e1, _⟩ := DataW.trod_bool Try.underlying4 t1
        obtain ⟨n2, e2, _, w2⟩ := DataW.trod_int Try.underlying27 t2
        obtain ⟨n3, e3, _, w3⟩ := DataW.trod_int Try.underlying27 t3
        obtain ⟨n4, e4, _, w4⟩ := DataW.trod_int Try.underlying48 t4
        obtain ⟨n5, e5, _, w5⟩ := DataW.trod_int Try.underlying48 t5
        simp only [List.cons.injEq, and_true] at e0 e1 e2 e3 e4 e5
        subst e0 e1 e2 e3 e4 e5
        have b0 := wf_u32 w0
        have b2 := wf_u32 w2
        have b3 := wf_u32 w3
        have b4 := wf_u16 w4
        have b5 := wf_u16 w5
        refine ⟨⟨n0.toNat, n1, n2.toNat, n3.toNat, n4.toNat, n5.toNat⟩, ⟨by show n0.toNat < _; omega, by show n2.toNat < _; omega, by show n3.toNat < _; omega, by show n4.toNat < _; omega, by show n5.toNat < _; omega⟩, fun j v hj => ?_⟩
        have hj6 : j < 6 := (List.getElem?_eq_some_iff.1 hj).1
        have cc : ∀ z : Int, 0 ≤ z → ((z.toNat : Nat) : Int) = z := fun z hz => Int.toNat_of_nonneg hz
        unfold relC at hj
        simp only [cc n0 b0.1, cc n2 b2.1, cc n3 b3.1, cc n4 b4.1, cc n5 b5.1] at hj
        obtain rfl | rfl | rfl | rfl | rfl | rfl : j = 0 ∨ j = 1 ∨ j = 2 ∨ j = 3 ∨ j = 4 ∨ j = 5 := by omega
        all_goals
          simp at hj
          subst hj
          assumption)
      have hlen : ((List.range len).map R).length = len := by simp
      have h0r : ∀ i, i < len → rl0 ((List.range len).map R) i = R i := fun i hil => by
        unfold rl0; rw [List.getD_eq_getElem?_getD, List.getElem?_map, List.getElem?_range hil]; rfl
      have hget : ∀ q v, (rels ((List.range len).map R))[q]? = some v → W.cell? (a.add q) = some v := by
        intro q v hv
        have hq : q < len * 6 := by
          have := (List.getElem?_eq_some_iff.1 hv).1
          rw [rels_len, hlen] at this; exact this
        have e : q = q / 6 * 6 + q % 6 := by omega
        rw [e, rels_at _ _ _ (by rw [hlen]; omega) (Nat.mod_lt _ (by omega)), h0r _ (by omega)] at hv
        rw [e]
        exact (hR (q / 6) (by omega)).2 _ _ hv
      obtain ⟨hs, hrow⟩ := row_is (a := a) (cells := rels ((List.range len).map R)) (by rw [rels_len, hlen]; omega) hget
      obtain ⟨b, o, s⟩ := a
      simp only at hs
      subst hs
      refine ⟨2, (List.range len).map R, b, o, cap, none, ⟨by rw [hlen]; rfl, ⟨by omega, fun h => by omega⟩, by rw [hlen]; exact hl, fun _ => hrow⟩, fun y hy => ?_⟩
      obtain ⟨i, hi', rfl⟩ := List.mem_map.1 hy
      exact (hR i (by simpa using hi')).1
end
def ren3 (B1 O1 C1 : Nat) (S1 : Option Nat) (B2 O2 C2 : Nat) (S2 : Option Nat) (B3 O3 C3 : Nat) (S3 : Option Nat) : Ren :=
  ⟨fun l => if l < NG then l else if l = 64 then B1 else if l = 65 then B2 else B3, fun l => if l < NG then 0 else if l = 64 then O1 else if l = 65 then O2 else O3,
    fun l => if l = 64 then (O1, S1) else if l = 65 then (O2, S2) else (O3, S3), fun l => if l = 64 then C1 else if l = 65 then C2 else C3, fun l => Nat.blt l 67,
    fun _ h => if_pos h, fun _ h => if_pos h, fun l h => blt_yes (Nat.lt_trans h (by decide))⟩
theorem cap_big (r : Ren) (g : Nat) : r.cap (big + g) = r.c g := cap_letter r g
section
variable {r : Ren} {W : World} {v : Value} {k n B O C g : Nat} {S : Option Nat} {cells : List Value}
theorem sl_val (h : SlIs W v k cells n B O C S) (hb : r.b g = B) (hw : r.w g = O) (ho : r.o g = (O, S)) (hc : r.c g = C) : v = r.val (sl k g n) := by
  rw [h.is]
  rcases k with _ | _ | k
  · show Value.slice none 0 0 = r.val (.slice none 0 0)
    rw [val_slice]; simp only [Option.map_none, Ren.cap]; rfl
  · show Value.slice (some ⟨B, O, S⟩) 0 C = r.val (.slice (some ⟨g, 0, some g⟩) 0 (big + g))
    rw [val_slice, cap_big, hc]; simp [Ren.addr, hb, ho]
  · show Value.slice (some ⟨B, O, none⟩) n C = r.val (.slice (some ⟨g, 0, none⟩) n (big + g))
    rw [val_slice, cap_big, hc]; simp [Ren.addr, hb, hw]
theorem sl_bnd {d : Nat → Bool} (hd : d g = true) : bnd d (sl k g n) = true := by
  unfold sl
  split
  · exact bnd_flat0 _ rfl
  · rw [bnd_slice]; simp [bndA, hd]
  · rw [bnd_slice]; simp [bndA, hd]
theorem sl_block (h : SlIs W v k cells n B O C S) (hb : r.b g = B) (hw : r.w g = O) (hf : ∀ u ∈ cells, flat0 u = true) : ∀ x ∈ slH k g cells, x.1 = g ∧ x.2.rw = false ∧ x.2.op = some (0, 0) ∧ x.2.cells = cells ∧ Sy.Is r x.2 x.1 W := by
  intro x hx
  unfold slH at hx
  split at hx
  · cases hx
  · cases hx
  · rename_i k0 k1
    obtain rfl := List.mem_singleton.1 hx
    refine ⟨rfl, rfl, rfl, rfl, .inl ⟨rfl, ?_⟩⟩
    have hk2 : 2 ≤ k := by
      rcases Nat.lt_or_ge k 2 with h | h
      · have : k = 0 ∨ k = 1 := by omega
        rcases this with h | h
        · exact absurd h k0
        · exact absurd h k1
      · exact h
    obtain ⟨arr, ty, fr, p1, p2, p3⟩ := h.at_ hk2
    refine ⟨arr, ty, fr, by rw [hb]; exact p1, ⟨.inl rfl, by rw [hw]; exact p2⟩, fun j u hj => ?_, fun h => by cases h⟩
    rw [hw, val_flat0 r (hf u (List.mem_of_getElem? hj))]
    exact p3 j u hj
end
theorem in_good {W : World} {v1 v2 v3 : Value} {i j k : Nat} {cs : List Nat} {rs : List Rl} {starts : List Nat} {B1 O1 C1 B2 O2 C2 B3 O3 C3 : Nat} {S1 S2 S3 : Option Nat}
    (h1 : SlIs W v1 i (u32s cs) cs.length B1 O1 C1 S1) (h2 : SlIs W v2 j (rels rs) rs.length B2 O2 C2 S2) (h3 : SlIs W v3 k (u32s starts) starts.length B3 O3 C3 S3) (T : List (Nat × Bool)) :
    Sy.Good (ren3 B1 O1 C1 S1 B2 O2 C2 S2 B3 O3 C3 S3) ⟨67, inH i j k cs rs starts, inLo cs rs starts, 0, T, 0, True⟩ W := by
  have key : ∀ x ∈ inH i j k cs rs starts, (x.1 = 64 ∨ x.1 = 65 ∨ x.1 = 66) ∧ x.2.rw = false ∧ x.2.op = some (0, 0) ∧ (∀ u ∈ x.2.cells, flat0 u = true) ∧ Sy.Is (ren3 B1 O1 C1 S1 B2 O2 C2 S2 B3 O3 C3 S3) x.2 x.1 W := by
    intro x hx
    unfold inH at hx
    rw [List.mem_append, List.mem_append] at hx
    rcases hx with (hx | hx) | hx
    · obtain ⟨e1, e2, e3, e4, e5⟩ := sl_block (r := ren3 B1 O1 C1 S1 B2 O2 C2 S2 B3 O3 C3 S3) (g := 64) h1 rfl rfl (u32s_flat cs) x hx
      exact ⟨.inl e1, e2, e3, by rw [e4]; exact u32s_flat cs, e5⟩
    · obtain ⟨e1, e2, e3, e4, e5⟩ := sl_block (r := ren3 B1 O1 C1 S1 B2 O2 C2 S2 B3 O3 C3 S3) (g := 65) h2 rfl rfl (rels_flat rs) x hx
      exact ⟨.inr (.inl e1), e2, e3, by rw [e4]; exact rels_flat rs, e5⟩
    · obtain ⟨e1, e2, e3, e4, e5⟩ := sl_block (r := ren3 B1 O1 C1 S1 B2 O2 C2 S2 B3 O3 C3 S3) (g := 66) h3 rfl rfl (u32s_flat starts) x hx
      exact ⟨.inr (.inr e1), e2, e3, by rw [e4]; exact u32s_flat starts, e5⟩
  refine ⟨fun g k hk => (key _ (look_mem hk)).2.2.2.2, fun g g' k k' e1 e2 hrw _ => ?_, fun g k hk => ?_, fun x hx => ?_⟩
  · have := (key _ (look_mem e1)).2.1
    simp only [] at this
    rw [this] at hrw; cases hrw
  · obtain ⟨q1, _, q3, q4, _⟩ := key _ (look_mem hk)
    refine ⟨blt_yes (by simp only [] at q1; omega), fun p hp => ?_, fun u hu => ⟨bnd_flat0 _ (q4 u hu), flat0_oneCell (q4 u hu)⟩⟩
    simp only [] at q3
    rw [q3] at hp
    cases hp
    rfl
  · simp only [inLo, List.mem_cons, List.not_mem_nil, or_false] at hx
    rcases hx with rfl | rfl | rfl
    · exact ⟨h1.le, rfl⟩
    · exact ⟨h2.le, rfl⟩
    · exact ⟨h3.le, rfl⟩
theorem eq7 {l : List Value} {a b c d e f g : Value} (hl : l.length = 7) (h0 : l[0]? = some a) (h1 : l[1]? = some b) (h2 : l[2]? = some c) (h3 : l[3]? = some d) (h4 : l[4]? = some e) (h5 : l[5]? = some f) (h6 : l[6]? = some g) : l = [a, b, c, d, e, f, g] := by
  match l, hl with
  | [x0, x1, x2, x3, x4, x5, x6], _ =>
    simp only [List.getElem?_cons_zero, List.getElem?_cons_succ, Option.some.injEq] at h0 h1 h2 h3 h4 h5 h6
    subst h0 h1 h2 h3 h4 h5 h6
    rfl
theorem open_img {H : Type} {enc : TypeId × Value → H} {W : World} {base b0 : Nat} {rc : Reach} {sp : Nat → Bool} {hd : Bool} {v : Value} {d : DataW H} {p : List MemPlace}
    (hv : Value.okWide Try.prog W rc b0 25 v) (h : DataW.Trod enc Try.prog W base sp hd 25 v d p) :
    ∃ (pages stack types : Int) (data : List UInt8) (cs : List Nat) (rs : List Rl) (starts : List Nat) (v1 v2 v3 : Value) (i j k B1 O1 C1 B2 O2 C2 B3 O3 C3 : Nat) (S1 S2 S3 : Option Nat),
      v = .agg ⟨[.int .i64 pages, .int .i64 stack, .int .i64 types, v1, .string ⟨⟨data⟩⟩, v2, v3]⟩ ∧ SlIs W v1 i (u32s cs) cs.length B1 O1 C1 S1 ∧ SlIs W v2 j (rels rs) rs.length B2 O2 C2 S2 ∧ SlIs W v3 k (u32s starts) starts.length B3 O3 C3 S3 ∧
      (∀ x ∈ cs, x < 4294967296) ∧ (∀ x ∈ rs, RlOk x) ∧ (∀ x ∈ starts, x < 4294967296) := by
  obtain ⟨l, rfl, hl, hf⟩ := open_agg_all Try.underlying25 (by kernel_rfl) (by kernel_rfl) hv h
  obtain ⟨u0, y0, m0, g0, t0⟩ := hf 0 _ rfl
  obtain ⟨u1, y1, m1, g1, t1⟩ := hf 1 _ rfl
  obtain ⟨u2, y2, m2, g2, t2⟩ := hf 2 _ rfl
  obtain ⟨u3, y3, m3, g3, t3⟩ := hf 3 _ rfl
  obtain ⟨u4, y4, m4, g4, t4⟩ := hf 4 _ rfl
  obtain ⟨u5, y5, m5, g5, t5⟩ := hf 5 _ rfl
  obtain ⟨u6, y6, m6, g6, t6⟩ := hf 6 _ rfl
  obtain ⟨pages, e0, _⟩ := DataW.trod_int Try.underlying3 t0
  obtain ⟨stack, e1, _⟩ := DataW.trod_int Try.underlying3 t1
  obtain ⟨types, e2, _⟩ := DataW.trod_int Try.underlying3 t2
  obtain ⟨str, e4, _⟩ := DataW.trod_string Try.underlying9 t4
  obtain ⟨i, cs, B1, O1, C1, S1, s1, n1⟩ := u32_slice Try.underlying22 Try.underlying27 (by kernel_rfl) t3
  obtain ⟨j, rs, B2, O2, C2, S2, s2, n2⟩ := rel_slice t5
  obtain ⟨k, starts, B3, O3, C3, S3, s3, n3⟩ := u32_slice Try.underlying22 Try.underlying27 (by kernel_rfl) t6
  simp only [List.cons.injEq, and_true] at e0 e1 e2 e4
  subst e0 e1 e2 e4
  obtain rfl := eq7 hl g0 g1 g2 g3 g4 g5 g6
  obtain ⟨⟨data⟩⟩ := str
  exact ⟨pages, stack, types, data, cs, rs, starts, u3, u5, u6, i, j, k, B1, O1, C1, B2, O2, C2, B3, O3, C3, S1, S2, S3, rfl, s1, s2, s3, n1, n2, n3⟩
theorem sl_form {k g n : Nat} (h : slOk k n) : ∃ (a : Option Addr) (c : Nat), sl k g n = .slice a n c := by
  obtain ⟨_, h2⟩ := h
  rcases k with _ | _ | k
  · obtain rfl := h2 (by omega); exact ⟨none, 0, rfl⟩
  · obtain rfl := h2 (by omega); exact ⟨some ⟨g, 0, some g⟩, big + g, rfl⟩
  · exact ⟨some ⟨g, 0, none⟩, big + g, rfl⟩
theorem inH_mem {i j k : Nat} {cs : List Nat} {rs : List Rl} {starts : List Nat} : ∀ x ∈ inH i j k cs rs starts, (x.1 = 64 ∨ x.1 = 65 ∨ x.1 = 66) ∧ x.2.rw = false ∧ x.2.op = some (0, 0) ∧ ∀ u ∈ x.2.cells, flat0 u = true := by
  have one : ∀ (k g : Nat) (cells : List Value), (∀ u ∈ cells, flat0 u = true) → ∀ x ∈ slH k g cells, x.1 = g ∧ x.2.rw = false ∧ x.2.op = some (0, 0) ∧ ∀ u ∈ x.2.cells, flat0 u = true := by
    intro k g cells hf x hx
    unfold slH at hx
    split at hx
    · cases hx
    · cases hx
    · obtain rfl := List.mem_singleton.1 hx
      exact ⟨rfl, rfl, rfl, hf⟩
  intro x hx
  unfold inH at hx
  rw [List.mem_append, List.mem_append] at hx
  rcases hx with (hx | hx) | hx
  · obtain ⟨e1, e⟩ := one _ _ _ (u32s_flat cs) x hx; exact ⟨.inl e1, e⟩
  · obtain ⟨e1, e⟩ := one _ _ _ (rels_flat rs) x hx; exact ⟨.inr (.inl e1), e⟩
  · obtain ⟨e1, e⟩ := one _ _ _ (u32s_flat starts) x hx; exact ⟨.inr (.inr e1), e⟩
theorem own_id (v : Value) (i j k : Nat) (pages stack types : Int) (data : List UInt8) (cs : List Nat) (rs : List Rl) (starts : List Nat) : InId 3 (ownC v (inH i j k cs rs starts) pages stack types data cs rs starts) := by
  refine ⟨fun x hx => ?_, fun x hx _ => ?_⟩
  · obtain ⟨e1, e2, e3, e4⟩ := inH_mem x hx
    refine ⟨by show x.1 < 67; omega, fun q hq => ?_, e2, fun u hu => okV_flat0 (e4 u hu) 3⟩
    rw [e3] at hq; cases hq; show 0 < 67; omega
  · simp only [ownC, ownH, List.mem_cons, List.not_mem_nil, or_false] at hx
    rcases hx with rfl | rfl | rfl
    · exact u32s_flat _
    · exact rels_flat _
    · exact u32s_flat _
theorem img_walk {call : CallK} (hcall : SoundCall Try.prog call) {f : FuncId} {W : World} {v1 v2 v3 : Value} {i j k : Nat} {pages stack types : Int} {data : List UInt8} {cs : List Nat} {rs : List Rl} {starts : List Nat} {B1 O1 C1 B2 O2 C2 B3 O3 C3 : Nat} {S1 S2 S3 : Option Nat}
    (h1 : SlIs W v1 i (u32s cs) cs.length B1 O1 C1 S1) (h2 : SlIs W v2 j (rels rs) rs.length B2 O2 C2 S2) (h3 : SlIs W v3 k (u32s starts) starts.length B3 O3 C3 S3)
    (run : ∃ (T : List (Nat × Bool)) (q : Prop), obs (call f [inV i j k pages stack types data cs rs starts] ⟨67, inH i j k cs rs starts, inLo cs rs starts, 0, T, 0, True⟩) = some (.bool true, q) ∧ q) :
    Calls Try.prog f #[.agg ⟨[.int .i64 pages, .int .i64 stack, .int .i64 types, v1, .string ⟨⟨data⟩⟩, v2, v3]⟩] W fun e W' => e = .returned (.bool true) ∧ Below W.heap.size W W' := by
  obtain ⟨T, q, hr, hq⟩ := run
  have hb : ∀ u ∈ [inV i j k pages stack types data cs rs starts], bnd (ren3 B1 O1 C1 S1 B2 O2 C2 S2 B3 O3 C3 S3).d u = true := fun u hu => by
    obtain rfl := List.mem_singleton.1 hu
    unfold inV
    rw [bnd_agg]
    have e1 : bnd (ren3 B1 O1 C1 S1 B2 O2 C2 S2 B3 O3 C3 S3).d (sl i 64 cs.length) = true := sl_bnd rfl
    have e2 : bnd (ren3 B1 O1 C1 S1 B2 O2 C2 S2 B3 O3 C3 S3).d (sl j 65 rs.length) = true := sl_bnd rfl
    have e3 : bnd (ren3 B1 O1 C1 S1 B2 O2 C2 S2 B3 O3 C3 S3).d (sl k 66 starts.length) = true := sl_bnd rfl
    rw [Array.all_eq_true_iff_forall_mem]
    intro u hu
    simp only [List.mem_toArray, List.mem_cons, List.not_mem_nil, or_false] at hu
    rcases hu with rfl | rfl | rfl | rfl | rfl | rfl | rfl
    · exact bnd_flat0 _ rfl
    · exact bnd_flat0 _ rfl
    · exact bnd_flat0 _ rfl
    · exact e1
    · exact bnd_flat0 _ rfl
    · exact e2
    · exact e3
  have hw : WFn ⟨67, inH i j k cs rs starts, inLo cs rs starts, 0, T, 0, True⟩ := ⟨fun g kb hk => by
    have := (inH_mem _ (look_mem hk)).1
    show g < 67
    simp only [] at this
    omega, fun x hx => by
    simp only [inLo, List.mem_cons, List.not_mem_nil, or_false] at hx
    show x.1 < 67
    rcases hx with rfl | rfl | rfl <;> simp⟩
  have hro : (inH i j k cs rs starts).all (fun y => !y.2.rw) = true := List.all_eq_true.2 fun x hx => by rw [(inH_mem x hx).2.1]; rfl
  have h := yes_ok hcall hr hq hw hro (in_good h1 h2 h3 T) (fun l hl => blt_no hl) hb
  have hv : (Value.agg ⟨[.int .i64 pages, .int .i64 stack, .int .i64 types, v1, .string ⟨⟨data⟩⟩, v2, v3]⟩) = (ren3 B1 O1 C1 S1 B2 O2 C2 S2 B3 O3 C3 S3).val (inV i j k pages stack types data cs rs starts) := by
    have e1 := sl_val (r := ren3 B1 O1 C1 S1 B2 O2 C2 S2 B3 O3 C3 S3) (g := 64) h1 rfl rfl rfl rfl
    have e2 := sl_val (r := ren3 B1 O1 C1 S1 B2 O2 C2 S2 B3 O3 C3 S3) (g := 65) h2 rfl rfl rfl rfl
    have e3 := sl_val (r := ren3 B1 O1 C1 S1 B2 O2 C2 S2 B3 O3 C3 S3) (g := 66) h3 rfl rfl rfl rfl
    unfold inV
    rw [val_agg]
    simp only [List.map_toArray, List.map_cons, List.map_nil, val_int, val_string, ← e1, ← e2, ← e3]
  rw [hv]
  exact h
end Go.Proofs.Ytdljpnebpoaeiaa
namespace Go.Proofs.Ytdljpnebpoaeiaa
set_option linter.unusedVariables false
set_option linter.unusedSimpArgs false
open Go.RowKit
open Sy
set_option maxRecDepth 100000
def selOne (f0 : FuncId) (c : Con) (ρ : List Nat) (m : Nat) : SelT := fun f _ _ => bif Nat.beq f f0 then some (c, ρ, m, True) else none
theorem selOne_ok {P : Program} {d : Nat} {f0 : FuncId} {c : Con} {ρ : List Nat} {m : Nat} (h : ConOk P f0 d c) (hi : InId d c) : SelTOk P d (selOne f0 c ρ m) := by
  intro f args s c' ρ' m' q h1 _
  unfold selOne at h1
  obtain ⟨h2, h3⟩ := bif_some h1
  clear h1
  have h2 := Nat.eq_of_beq_eq_true h2
  subst h2
  cases h3
  exact ⟨h, hi⟩
def anV (pages stack types : Int) (data : List UInt8) (s1 s2 s3 : Value) : Value := .agg ⟨[.int .i64 pages, .int .i64 stack, .int .i64 types, s1, .string ⟨⟨data⟩⟩, s2, s3]⟩
def ow2V (pages stack types : Int) (dd : List UInt8) (nc nr ns a b c : Nat) : Value :=
  .agg ⟨[.int .i64 pages, .int .i64 stack, .int .i64 types, .slice (some ⟨a, 0, none⟩) nc (big + a), .string ⟨⟨dd⟩⟩, .slice (some ⟨b, 0, none⟩) nr (big + b), .slice (some ⟨c, 0, none⟩) ns (big + c)]⟩
def ow2H (co : List Nat) (ro : List Rl) (so : List Nat) (a b c : Nat) : Sy.Heap := [(c, ⟨true, some (c, 1), u32s so, none⟩), (b, ⟨true, some (b, 6), rels ro, none⟩), (a, ⟨true, some (a, 1), u32s co, none⟩)]
def ow2C (v : Value) (h : Sy.Heap) (lo : List (Nat × Nat)) (pages stack types : Int) (dd : List UInt8) (co : List Nat) (ro : List Rl) (so : List Nat) : Con :=
  ⟨[v], 67, h, lo, ow2V pages stack types dd co.length ro.length so.length 67 68 69, 70, ow2H co ro so 67 68 69, []⟩
def lo3 (a b c : Nat) : List (Nat × Nat) := [(64, a), (65, b), (66, c)]
def notF (l : List FuncId) (f : FuncId) : Bool := l.all fun g => !Nat.beq g f
def selIf (p : FuncId → Bool) (s : SelC) : SelC := fun f args st => bif p f then s f args st else none
theorem selIf_ok {P : Program} {d : Nat} {p : FuncId → Bool} {s : SelC} (h : SelOk P d s) : SelOk P d (selIf p s) := by
  intro f args st c ρ q h1 h2
  unfold selIf at h1
  obtain ⟨_, h3⟩ := bif_some h1
  exact h f args st c ρ q h3 h2
end Go.Proofs.Ytdljpnebpoaeiaa
namespace Go.Proofs.Ytdljpnebpoaeiaa
set_option linter.unusedVariables false
set_option linter.unusedSimpArgs false
open Go.RowKit
open Sy
set_option linter.unusedSimpArgs false
theorem put1 (s : List UInt8) (v : Int) : obs (evF Try.prog noBase noLoop 100 10 36 [Value.string { data := { toList := s : Array UInt8 } : ByteArray }, Value.int IntKind.i64 (1 : Int), Value.int IntKind.u32 v] (stT [])) = some (Value.string { data := { toList := s ++ [UInt8.ofNat (IntKind.u8.wrap (v.fdiv (1 : Int))).toNat] : Array UInt8 } : ByteArray }, bif (lenT s + 1).blt 9223372036854775808 then True else False) := by kernel_rfl
theorem put2 (s : List UInt8) (v : Int) : obs (evF Try.prog noBase noLoop 100 10 36 [Value.string { data := { toList := s : Array UInt8 } : ByteArray }, Value.int IntKind.i64 (2 : Int), Value.int IntKind.u32 v] (stT [])) = some (Value.string { data := { toList := s ++ [UInt8.ofNat (IntKind.u8.wrap (v.fdiv (1 : Int))).toNat, UInt8.ofNat (IntKind.u8.wrap (v.fdiv (256 : Int))).toNat] : Array UInt8 } : ByteArray }, bif (lenT s + 2).blt 9223372036854775808 then True else False) := by kernel_rfl
theorem put4 (s : List UInt8) (v : Int) : obs (evF Try.prog noBase noLoop 100 10 36 [Value.string { data := { toList := s : Array UInt8 } : ByteArray }, Value.int IntKind.i64 (4 : Int), Value.int IntKind.u32 v] (stT [])) = some (Value.string { data := { toList := s ++ [UInt8.ofNat (IntKind.u8.wrap (v.fdiv (1 : Int))).toNat, UInt8.ofNat (IntKind.u8.wrap (v.fdiv (256 : Int))).toNat, UInt8.ofNat (IntKind.u8.wrap (v.fdiv (65536 : Int))).toNat, UInt8.ofNat (IntKind.u8.wrap (v.fdiv (16777216 : Int))).toNat] : Array UInt8 } : ByteArray }, bif (lenT s + 4).blt 9223372036854775808 then True else False) := by kernel_rfl
theorem rput1 (s : List UInt8) (v : Int) : obs (evF Try.prog noBase noLoop 100 10 38 [Value.string { data := { toList := s : Array UInt8 } : ByteArray }, Value.int IntKind.i64 (1 : Int), Value.int IntKind.u32 v] (stT [])) = some (Value.string { data := { toList := s ++ [UInt8.ofNat (IntKind.u8.wrap (v.tmod (256 : Int))).toNat] : Array UInt8 } : ByteArray }, bif (lenT s + 1).blt 9223372036854775808 then True else False) := by kernel_rfl
theorem rput2 (s : List UInt8) (v : Int) : obs (evF Try.prog noBase noLoop 100 10 38 [Value.string { data := { toList := s : Array UInt8 } : ByteArray }, Value.int IntKind.i64 (2 : Int), Value.int IntKind.u32 v] (stT [])) = some (Value.string { data := { toList := s ++ [UInt8.ofNat (IntKind.u8.wrap (v.tmod (256 : Int))).toNat] ++ [UInt8.ofNat (IntKind.u8.wrap ((IntKind.u32.wrap (v.tdiv (256 : Int))).tmod (256 : Int))).toNat] : Array UInt8 } : ByteArray }, bif (lenT (s ++ [UInt8.ofNat (IntKind.u8.wrap (v.tmod (256 : Int))).toNat]) + 1).blt 9223372036854775808 then bif (lenT s + 1).blt 9223372036854775808 then True else False else False) := by kernel_rfl
theorem rput4 (s : List UInt8) (v : Int) : obs (evF Try.prog noBase noLoop 100 10 38 [Value.string { data := { toList := s : Array UInt8 } : ByteArray }, Value.int IntKind.i64 (4 : Int), Value.int IntKind.u32 v] (stT [])) = some (Value.string { data := { toList := s ++ [UInt8.ofNat (IntKind.u8.wrap (v.tmod (256 : Int))).toNat] ++ [UInt8.ofNat (IntKind.u8.wrap ((IntKind.u32.wrap (v.tdiv (256 : Int))).tmod (256 : Int))).toNat] ++ [UInt8.ofNat (IntKind.u8.wrap ((IntKind.u32.wrap ((IntKind.u32.wrap (v.tdiv (256 : Int))).tdiv (256 : Int))).tmod (256 : Int))).toNat] ++ [UInt8.ofNat (IntKind.u8.wrap ((IntKind.u32.wrap ((IntKind.u32.wrap ((IntKind.u32.wrap (v.tdiv (256 : Int))).tdiv (256 : Int))).tdiv (256 : Int))).tmod (256 : Int))).toNat] : Array UInt8 } : ByteArray }, bif (lenT (s ++ [UInt8.ofNat (IntKind.u8.wrap (v.tmod (256 : Int))).toNat] ++ [UInt8.ofNat (IntKind.u8.wrap ((IntKind.u32.wrap (v.tdiv (256 : Int))).tmod (256 : Int))).toNat] ++ [UInt8.ofNat (IntKind.u8.wrap ((IntKind.u32.wrap ((IntKind.u32.wrap (v.tdiv (256 : Int))).tdiv (256 : Int))).tmod (256 : Int))).toNat]) + 1).blt 9223372036854775808 then bif (lenT (s ++ [UInt8.ofNat (IntKind.u8.wrap (v.tmod (256 : Int))).toNat] ++ [UInt8.ofNat (IntKind.u8.wrap ((IntKind.u32.wrap (v.tdiv (256 : Int))).tmod (256 : Int))).toNat]) + 1).blt 9223372036854775808 then bif (lenT (s ++ [UInt8.ofNat (IntKind.u8.wrap (v.tmod (256 : Int))).toNat]) + 1).blt 9223372036854775808 then bif (lenT s + 1).blt 9223372036854775808 then True else False else False else False else False) := by kernel_rfl
def leB : Nat → Nat → List UInt8
  | 0, _ => []
  | w + 1, n => UInt8.ofNat (n % 256) :: leB w (n / 256)
theorem leB_len : ∀ (w n : Nat), (leB w n).length = w
  | 0, _ => rfl
  | w + 1, n => by simp [leB, leB_len w]
def putC (s : List UInt8) (w v : Int) : Con := Con.pure [.string ⟨⟨s⟩⟩, .int .i64 w, .int .u32 v] (.string ⟨⟨s ++ leB w.toNat v.toNat⟩⟩)
def putOk (s : List UInt8) (w v : Int) : Prop := s.length ≤ 1000000000 ∧ (w = 1 ∨ w = 2 ∨ w = 4) ∧ inU32 v
theorem fd (n k : Nat) : (n : Int).fdiv (k : Int) = ((n / k : Nat) : Int) := by
  rw [Int.fdiv_eq_ediv_of_nonneg _ (by omega)]; rfl
theorem td (n k : Nat) : (n : Int).tdiv (k : Int) = ((n / k : Nat) : Int) := (Int.ofNat_tdiv n k).symm
theorem tm (n k : Nat) : (n : Int).tmod (k : Int) = ((n % k : Nat) : Int) := (Int.ofNat_tmod n k).symm
theorem w8 (n : Nat) : (IntKind.u8.wrap (n : Int)).toNat = n % 256 := by rw [IntKind.wrap_u8]; omega
theorem w32 (n : Nat) (h : n < 4294967296) : IntKind.u32.wrap (n : Int) = (n : Int) := u32_nat n h
theorem fd0 (n : Nat) : (n : Int).fdiv (1 : Int) = ((n / 1 : Nat) : Int) := fd n 1
theorem fd1 (n : Nat) : (n : Int).fdiv (256 : Int) = ((n / 256 : Nat) : Int) := fd n 256
theorem fd2 (n : Nat) : (n : Int).fdiv (65536 : Int) = ((n / 65536 : Nat) : Int) := fd n 65536
theorem fd3 (n : Nat) : (n : Int).fdiv (16777216 : Int) = ((n / 16777216 : Nat) : Int) := fd n 16777216
theorem td1 (n : Nat) : (n : Int).tdiv (256 : Int) = ((n / 256 : Nat) : Int) := td n 256
theorem tm1 (n : Nat) : (n : Int).tmod (256 : Int) = ((n % 256 : Nat) : Int) := tm n 256
theorem dd2 (n : Nat) : n / 65536 = n / 256 / 256 := by omega
theorem dd3 (n : Nat) : n / 16777216 = n / 256 / 256 / 256 := by omega
theorem put_con (s : List UInt8) (w v : Int) (h : putOk s w v) : ConOk Try.prog 36 3 (putC s w v) := by
  obtain ⟨hs, hw, h1, h2⟩ := h
  obtain ⟨n, rfl⟩ := Int.eq_ofNat_of_zero_le h1
  have hn : n < 4294967296 := by omega
  have m1 := w32 (n / 256) (by omega)
  have m2 := w32 (n / 256 / 256) (by omega)
  have m3 := w32 (n / 256 / 256 / 256) (by omega)
  rcases hw with rfl | rfl | rfl
  · have hr := put1 s (n : Int)
    simp only [fd0, fd1, fd2, fd3, td1, tm1, m1, m2, m3, w8, dd2, dd3, Nat.div_one, Nat.mod_mod, List.append_assoc, List.cons_append, List.nil_append] at hr
    exact pure_run (run_ok i_names (noBase_ok _) (noLoop_ok _) 10) (v := .string ⟨⟨s ++ leB 1 n⟩⟩) hr (by
      simp only [lenT_eq, List.length_append, List.length_cons, List.length_nil]
      repeat (first | exact trivial | refine bif_true (blt_true (by omega)) ?_)) rfl rfl
  · have hr := put2 s (n : Int)
    simp only [fd0, fd1, fd2, fd3, td1, tm1, m1, m2, m3, w8, dd2, dd3, Nat.div_one, Nat.mod_mod, List.append_assoc, List.cons_append, List.nil_append] at hr
    exact pure_run (run_ok i_names (noBase_ok _) (noLoop_ok _) 10) (v := .string ⟨⟨s ++ leB 2 n⟩⟩) hr (by
      simp only [lenT_eq, List.length_append, List.length_cons, List.length_nil]
      repeat (first | exact trivial | refine bif_true (blt_true (by omega)) ?_)) rfl rfl
  · have hr := put4 s (n : Int)
    simp only [fd0, fd1, fd2, fd3, td1, tm1, m1, m2, m3, w8, dd2, dd3, Nat.div_one, Nat.mod_mod, List.append_assoc, List.cons_append, List.nil_append] at hr
    exact pure_run (run_ok i_names (noBase_ok _) (noLoop_ok _) 10) (v := .string ⟨⟨s ++ leB 4 n⟩⟩) hr (by
      simp only [lenT_eq, List.length_append, List.length_cons, List.length_nil]
      repeat (first | exact trivial | refine bif_true (blt_true (by omega)) ?_)) rfl rfl
theorem rput_con (s : List UInt8) (w v : Int) (h : putOk s w v) : ConOk Try.prog 38 3 (putC s w v) := by
  obtain ⟨hs, hw, h1, h2⟩ := h
  obtain ⟨n, rfl⟩ := Int.eq_ofNat_of_zero_le h1
  have hn : n < 4294967296 := by omega
  have m1 := w32 (n / 256) (by omega)
  have m2 := w32 (n / 256 / 256) (by omega)
  have m3 := w32 (n / 256 / 256 / 256) (by omega)
  rcases hw with rfl | rfl | rfl
  · have hr := rput1 s (n : Int)
    simp only [fd0, fd1, fd2, fd3, td1, tm1, m1, m2, m3, w8, dd2, dd3, Nat.div_one, Nat.mod_mod, List.append_assoc, List.cons_append, List.nil_append] at hr
    exact pure_run (run_ok i_names (noBase_ok _) (noLoop_ok _) 10) (v := .string ⟨⟨s ++ leB 1 n⟩⟩) hr (by
      simp only [lenT_eq, List.length_append, List.length_cons, List.length_nil]
      repeat (first | exact trivial | refine bif_true (blt_true (by omega)) ?_)) rfl rfl
  · have hr := rput2 s (n : Int)
    simp only [fd0, fd1, fd2, fd3, td1, tm1, m1, m2, m3, w8, dd2, dd3, Nat.div_one, Nat.mod_mod, List.append_assoc, List.cons_append, List.nil_append] at hr
    exact pure_run (run_ok i_names (noBase_ok _) (noLoop_ok _) 10) (v := .string ⟨⟨s ++ leB 2 n⟩⟩) hr (by
      simp only [lenT_eq, List.length_append, List.length_cons, List.length_nil]
      repeat (first | exact trivial | refine bif_true (blt_true (by omega)) ?_)) rfl rfl
  · have hr := rput4 s (n : Int)
    simp only [fd0, fd1, fd2, fd3, td1, tm1, m1, m2, m3, w8, dd2, dd3, Nat.div_one, Nat.mod_mod, List.append_assoc, List.cons_append, List.nil_append] at hr
    exact pure_run (run_ok i_names (noBase_ok _) (noLoop_ok _) 10) (v := .string ⟨⟨s ++ leB 4 n⟩⟩) hr (by
      simp only [lenT_eq, List.length_append, List.length_cons, List.length_nil]
      repeat (first | exact trivial | refine bif_true (blt_true (by omega)) ?_)) rfl rfl
def selPut : SelC := fun f args _ =>
  match args with
  | [.string ⟨⟨s⟩⟩, .int .i64 w, .int .u32 v] => bif Nat.beq f 36 then some (putC s w v, [], putOk s w v) else bif Nat.beq f 38 then some (putC s w v, [], putOk s w v) else none
  | _ => none
theorem selPut_ok : SelOk Try.prog 3 selPut := by
  intro f args s c ρ q h hq
  unfold selPut at h
  split at h
  · cases h1 : Nat.beq f 36 <;> rw [h1] at h
    · simp only [cond_false] at h
      obtain ⟨h2, h3⟩ := bif_some h
      clear h
      have h2 := Nat.eq_of_beq_eq_true h2
      subst h2
      cases h3
      exact rput_con _ _ _ hq
    · have h1 := Nat.eq_of_beq_eq_true h1
      subst h1
      cases h
      exact put_con _ _ _ hq
  · cases h
end Go.Proofs.Ytdljpnebpoaeiaa
namespace Go.Proofs.Ytdljpnebpoaeiaa
set_option linter.unusedVariables false
set_option linter.unusedSimpArgs false
open Go.RowKit
open Sy
def puI (xs : List Nat) (acc : List UInt8) (k : Nat) : Sf :=
  ⟨67, [(0, .int .i64 4), (2, .pointer (some ⟨65, 0, none⟩)), (7, .slice (some ⟨64, 0, none⟩) xs.length (big + 64)), (8, .int .i64 (xs.length : Nat)), (9, .int .i64 (k : Nat))],
    [(64, ⟨false, some (0, 0), u32s xs, none⟩), (65, ⟨true, none, [.slice (some ⟨66, 0, none⟩) acc.length (big + 66)], none⟩), (66, ⟨true, some (66, 1), u8s acc, none⟩)], [(66, acc.length)]⟩
def puN (acc : List UInt8) : Sf := ⟨68, [], [(65, ⟨true, none, [.slice (some ⟨67, 0, none⟩) acc.length (big + 67)], none⟩), (67, ⟨true, some (67, 1), u8s acc, none⟩)], [(67, acc.length)]⟩
theorem pu_next (xs : List Nat) (acc : List UInt8) (k : Nat) : evC Try.prog (evF Try.prog (baseC 3 selPut) noLoop 100 3) (noLoop 35) 19 100 (loopOf Try.prog 35 0) (Sf.frT 19 (puI xs acc k) [(0, true)]) = some (Exit.normal, { e := [[Value.int IntKind.i64 (4 : Int), unk, Value.pointer (some { block := 65, off := 0 }), unk, unk, unk, Value.int IntKind.u32 (intOf' (getD' undef (u32s xs) (0 + (↑k : Int).toNat * 1))), Value.slice (some { block := 64, off := 0 }) xs.length 9223372036854775872, Value.int IntKind.i64 (↑xs.length : Int), Value.int IntKind.i64 (IntKind.i64.wrap ((↑k : Int) + (1 : Int))), Value.bool (decide ((↑k : Int) < (↑xs.length : Int))), Value.pointer (some { block := 64, off := 0 + (↑k : Int).toNat * 1 }), Value.int IntKind.u32 (intOf' (getD' undef (u32s xs) (0 + (↑k : Int).toNat * 1))), Value.slice (some { block := 66, off := 0 }) acc.length 9223372036854775874, Value.int IntKind.i64 (4 : Int), Value.int IntKind.u32 (intOf' (getD' undef (u32s xs) (0 + (↑k : Int).toNat * 1)))], [Value.string { data := { toList := [] ++ leB 4 (intOf' (getD' undef (u32s xs) (0 + (↑k : Int).toNat * 1))).toNat : Array UInt8 } : ByteArray }, Value.slice (some { block := 67, off := 0 }) (acc.length + lenT ([] ++ leB 4 (intOf' (getD' undef (u32s xs) (0 + (↑k : Int).toNat * 1))).toNat)) 9223372036854775875, Value.int IntKind.i64 (IntKind.i64.wrap ((↑k : Int) + (1 : Int))), unk, unk, unk, unk, unk, unk, unk, unk, unk, unk, unk, unk, unk]], s := { n := 68, h := [(67, { rw := true, op := some (67, 1), cells := u8s acc ++ List.map (fun c => Value.int IntKind.u8 (↑c.toNat : Int)) (List.take (lenT ([] ++ leB 4 (intOf' (getD' undef (u32s xs) (0 + (↑k : Int).toNat * 1))).toNat)) ([] ++ leB 4 (intOf' (getD' undef (u32s xs) (0 + (↑k : Int).toNat * 1))).toNat)), it := none : Sy.Blk }), (64, { rw := false, op := some (0, 0), cells := u32s xs, it := none : Sy.Blk }), (65, { rw := true, op := none, cells := [Value.slice (some { block := 67, off := 0 }) (acc.length + lenT ([] ++ leB 4 (intOf' (getD' undef (u32s xs) (0 + (↑k : Int).toNat * 1))).toNat)) 9223372036854775875], it := none : Sy.Blk })], lo := [(67, acc.length + lenT ([] ++ leB 4 (intOf' (getD' undef (u32s xs) (0 + (↑k : Int).toNat * 1))).toNat)), (66, acc.length)], esc := 0, T := [], k := 1, O := bif (lenT (u8s acc)).beq (acc.length * 1) then bif (lenT (List.map (fun c => Value.int IntKind.u8 (↑c.toNat : Int)) (List.take (lenT ([] ++ leB 4 (intOf' (getD' undef (u32s xs) (0 + (↑k : Int).toNat * 1))).toNat)) ([] ++ leB 4 (intOf' (getD' undef (u32s xs) (0 + (↑k : Int).toNat * 1))).toNat)))).beq (lenT ([] ++ leB 4 (intOf' (getD' undef (u32s xs) (0 + (↑k : Int).toNat * 1))).toNat) * 1) && oneC (List.map (fun c => Value.int IntKind.u8 (↑c.toNat : Int)) (List.take (lenT ([] ++ leB 4 (intOf' (getD' undef (u32s xs) (0 + (↑k : Int).toNat * 1))).toNat)) ([] ++ leB 4 (intOf' (getD' undef (u32s xs) (0 + (↑k : Int).toNat * 1))).toNat))) && ((acc.length + lenT ([] ++ leB 4 (intOf' (getD' undef (u32s xs) (0 + (↑k : Int).toNat * 1))).toNat)) * 1).ble 1099511627776 && (acc.length + lenT ([] ++ leB 4 (intOf' (getD' undef (u32s xs) (0 + (↑k : Int).toNat * 1))).toNat)).blt 4611686018427387904 then (bif hasN (0 + (↑k : Int).toNat * 1 + 1) (u32s xs) && isLikeL [Value.int IntKind.u32 (0 : Int)] (u32s xs) (0 + (↑k : Int).toNat * 1) then bif decide ((0 : Int) ≤ (↑k : Int)) && decide ((↑k : Int) < (↑xs.length : Int)) then True ∧ decide ((↑k : Int) < (↑xs.length : Int)) = true else False else False) ∧ (([] : List UInt8).length ≤ 1000000000 ∧ ((4 : Int) = (1 : Int) ∨ (4 : Int) = (2 : Int) ∨ (4 : Int) = (4 : Int)) ∧ (0 : Int) ≤ intOf' (getD' undef (u32s xs) (0 + (↑k : Int).toNat * 1)) ∧ intOf' (getD' undef (u32s xs) (0 + (↑k : Int).toNat * 1)) < (4294967296 : Int)) ∧ (Value.string { data := #[] : ByteArray } = Value.string { data := { toList := [] : Array UInt8 } : ByteArray } ∧ Value.int IntKind.i64 (4 : Int) = Value.int IntKind.i64 (4 : Int) ∧ Value.int IntKind.u32 (intOf' (getD' undef (u32s xs) (0 + (↑k : Int).toNat * 1))) = Value.int IntKind.u32 (intOf' (getD' undef (u32s xs) (0 + (↑k : Int).toNat * 1))) ∧ True) ∧ True ∧ True else False else False : St } : Fr }) := by kernel_rfl
theorem pu_end (xs : List Nat) (acc : List UInt8) (k : Nat) : evC Try.prog (evF Try.prog (baseC 3 selPut) noLoop 100 3) (noLoop 35) 19 100 (loopOf Try.prog 35 0) (Sf.frT 19 (puI xs acc k) [(0, false)]) = some (Exit.exit 0, { e := [[Value.int IntKind.i64 (4 : Int), unk, Value.pointer (some { block := 65, off := 0 }), unk, unk, unk, unk, Value.slice (some { block := 64, off := 0 }) xs.length 9223372036854775872, Value.int IntKind.i64 (↑xs.length : Int), Value.int IntKind.i64 (↑k : Int), Value.bool (decide ((↑k : Int) < (↑xs.length : Int))), unk, unk, unk, unk, unk], [unk, unk, unk, unk, unk, unk, unk, unk, unk, unk, unk, unk, unk, unk, unk, unk]], s := { n := 67, h := [(64, { rw := false, op := some (0, 0), cells := u32s xs, it := none : Sy.Blk }), (65, { rw := true, op := none, cells := [Value.slice (some { block := 66, off := 0 }) acc.length 9223372036854775874], it := none : Sy.Blk }), (66, { rw := true, op := some (66, 1), cells := u8s acc, it := none : Sy.Blk })], lo := [(66, acc.length)], esc := 0, T := [], k := 1, O := True ∧ decide ((↑k : Int) < (↑xs.length : Int)) = false : St } : Fr }) := by kernel_rfl
theorem u8s_flat (xs : List UInt8) : ∀ v ∈ u8s xs, flat0 v = true := fun v hv => by
  obtain ⟨b, _, rfl⟩ := List.mem_map.1 hv; rfl
theorem u8s_app (a b : List UInt8) : u8s a ++ u8s b = u8s (a ++ b) := by unfold u8s; rw [List.map_append]
theorem u8s_len (a : List UInt8) : (u8s a).length = a.length := by simp [u8s]
theorem pu_cells (n : Nat) : List.map (fun (c : UInt8) => Value.int .u8 (c.toNat : Int)) (List.take 4 (leB 4 n)) = u8s (leB 4 n) := by rw [List.take_of_length_le (by rw [leB_len]; omega)]; rfl
def puσ (l : Nat) : Nat := if l = 66 then 67 else l
def puτ (l : Nat) : Nat := if l = 67 then 66 else l
theorem pu_wf (xs : List Nat) (acc : List UInt8) (k : Nat) : (puI xs acc k).Wf :=
  ⟨by show NG ≤ 67; decide, Sf.Ok.mk' 3 ⟨⟨rfl, rfl, flat_bnd (u32s_flat xs)⟩, ⟨rfl, rfl, fun v hv => okV_bnd 3 v (List.all_eq_true.1 (show ([.slice (some ⟨66, 0, none⟩) acc.length (big + 66)] : List Value).all (okV (fun l => Nat.blt l 67) 3) = true from by kernel_rfl) v hv)⟩, ⟨rfl, rfl, flat_bnd (u8s_flat acc)⟩, trivial⟩ rfl (fun x hx => by
    have : (puI xs acc k).e.all (fun x => okV (fun l => Nat.blt l 67) 3 x.2) = true := by kernel_rfl
    exact List.all_eq_true.1 this x hx)⟩
theorem puN_ok (acc : List UInt8) (σ : Nat → Nat) (p : Nat → Bool) (h : keeps 67 68 σ p 65 = true) (h7 : keeps 67 68 σ p 67 = true) : (puN acc).Ok (keeps 67 68 σ p) :=
  ⟨⟨⟨h, rfl, fun v hv => by
    obtain rfl := List.mem_singleton.1 hv
    rw [bnd_slice]
    simp only [bndA, h7, Bool.and_true, Bool.true_and, Bool.or_eq_true]
    right
    rw [show big + 67 - big = 67 from Nat.add_sub_cancel_left _ _]; exact h7⟩, ⟨h7, h7, flat_bnd (u8s_flat acc)⟩, trivial⟩, by simp [puN, h7], fun x hx => by cases hx⟩
theorem pu_step_next (xs : List Nat) (acc fin : List UInt8) (k : Nat) (hm : xs.length ≤ 100000000) (hk : k < xs.length) (hx : xs.getD k 0 < 4294967296) (ha : acc.length ≤ 100000000000) :
    ∃ g, evC Try.prog (evF Try.prog (baseC 3 selPut) noLoop 100 3) (noLoop 35) 19 100 (loopOf Try.prog 35 0) ((puI xs acc k).frT 19 [(0, true)]) = some (.normal, g) ∧ g.s.O ∧ Sf.Leads 3 (fun l => Nat.blt l 67) puσ (puI xs acc k) g (puI xs (acc ++ leB 4 (xs.getD k 0)) (k + 1)) (puN fin) := by
  have hh := pu_next xs acc k
  simp only [u32s_at, Int.toNat_natCast, Nat.zero_add, Nat.mul_one, lenT_eq, List.nil_append, leB_len, pu_cells, u8s_app, u8s_len] at hh
  have e4 : acc.length + 4 = (acc ++ leB 4 (xs.getD k 0)).length := by rw [List.length_append, leB_len]
  rw [e4] at hh
  refine ⟨_, hh, ?_, ?_⟩
  · have g1 : hasN (k + 1) (u32s xs) = true := by rw [u32s_has]; simp; omega
    have g2 : isLikeL [Value.int IntKind.u32 (0 : Int)] (u32s xs) k = true := by rw [u32s_like]; simp; omega
    have g3 : oneC (u8s (leB 4 (xs.getD k 0))) = true := oneC_flat (u8s_flat _)
    have g4 : acc.length.beq acc.length = true := Nat.beq_refl _
    have g6 : (acc.length + 4).ble 1099511627776 = true := ble_true (by omega)
    have g7 : (acc.length + 4).blt 4611686018427387904 = true := blt_true (by omega)
    have g8 : decide ((0 : Int) ≤ (k : Int)) = true := by simp
    have g9 : decide ((k : Int) < (xs.length : Int)) = true := by simp; omega
    have g10 : (0 : Int) ≤ ((xs.getD k 0 : Nat) : Int) := by omega
    have g11 : ((xs.getD k 0 : Nat) : Int) < 4294967296 := by omega
    simp only [u8s_len, leB_len, List.length_append, Nat.mul_one, Nat.beq_refl, g1, g2, g3, g4, g6, g7, g8, g9, g10, g11, Bool.and_self, cond_true, and_true, true_and, and_self, or_true, List.length_nil, Nat.zero_le]
  · refine ⟨fun l hl => ?_, ⟨⟨rfl, flat_all (u32s_flat xs), rfl, rfl, rfl, trivial, (flat_map (u32s_flat xs)).symm⟩, ⟨rfl, by kernel_rfl, rfl, rfl, rfl, trivial, by kernel_rfl⟩, ⟨rfl, flat_all (u8s_flat _), rfl, rfl, rfl, trivial, (flat_map (u8s_flat _)).symm⟩, trivial⟩, rfl, ⟨⟨rfl, Nat.le_refl _⟩, trivial⟩, ⟨⟨by kernel_rfl, by kernel_rfl⟩, ⟨by kernel_rfl, by kernel_rfl⟩, ⟨by kernel_rfl, by kernel_rfl⟩, ⟨rfl, by kernel_rfl⟩, ⟨rfl, ?_⟩, trivial⟩, Nat.le_refl _, fun l hl => blt_no hl, puN_ok fin puσ _ rfl rfl, ?_⟩
    · unfold puσ; have : NG ≤ 66 := by decide
      rw [if_neg (by omega)]
    · refine Eq.trans (b := Value.int .i64 (IntKind.i64.wrap ((k : Int) + 1))) (by kernel_rfl) ?_
      rw [cast_succ_i64 k (by omega)]; rfl
    · intro x hx hrw
      simp only [puI, List.mem_cons, List.not_mem_nil, or_false] at hx
      rcases hx with rfl | rfl | rfl
      · exact .inl rfl
      · cases hrw
      · cases hrw
theorem pu_step_end (xs : List Nat) (acc : List UInt8) (k : Nat) (hk : k = xs.length) :
    ∃ g, evC Try.prog (evF Try.prog (baseC 3 selPut) noLoop 100 3) (noLoop 35) 19 100 (loopOf Try.prog 35 0) ((puI xs acc k).frT 19 [(0, false)]) = some (.exit 0, g) ∧ g.s.O ∧ Sf.Leads 3 (fun l => Nat.blt l 68) puτ (puI xs acc k) g (puN acc) (puN acc) := by
  refine ⟨_, pu_end xs acc k, ?_, ?_⟩
  · subst hk; simp
  · refine ⟨fun l hl => ?_, ⟨⟨rfl, by kernel_rfl, rfl, rfl, rfl, trivial, by kernel_rfl⟩, ⟨rfl, flat_all (u8s_flat _), rfl, rfl, rfl, trivial, (flat_map (u8s_flat _)).symm⟩, trivial⟩, rfl, ⟨⟨rfl, Nat.le_refl _⟩, trivial⟩, trivial, by show 67 ≤ 68; omega, fun l hl => blt_no hl, puN_ok acc puτ _ rfl rfl, fun x hx hrw => ?_⟩
    · unfold puτ; have : NG ≤ 66 := by decide
      rw [if_neg (by omega)]
    · simp only [puN, List.mem_cons, List.not_mem_nil, or_false] at hx
      rcases hx with rfl | rfl <;> cases hrw
def accN (acc : List UInt8) (xs : List Nat) (k : Nat) : List UInt8 := acc ++ (xs.take k).flatMap (leB 4)
theorem accN_succ (acc : List UInt8) (xs : List Nat) (k : Nat) (h : k < xs.length) : accN acc xs (k + 1) = accN acc xs k ++ leB 4 (xs.getD k 0) := by
  unfold accN
  rw [List.take_add_one, List.getElem?_eq_getElem h, List.flatMap_append, List.append_assoc]
  congr 2
  simp [List.getD_eq_getElem?_getD, List.getElem?_eq_getElem h]
theorem flat4_len : ∀ (l : List Nat), (l.flatMap (leB 4)).length = l.length * 4
  | [] => rfl
  | x :: l => by rw [List.flatMap_cons, List.length_append, flat4_len l, leB_len, List.length_cons]; omega
theorem accN_len (acc : List UInt8) (xs : List Nat) (k : Nat) : (accN acc xs k).length ≤ acc.length + xs.length * 4 := by
  unfold accN
  rw [List.length_append, flat4_len, List.length_take]; omega
theorem accN_all (acc : List UInt8) (xs : List Nat) : accN acc xs xs.length = acc ++ xs.flatMap (leB 4) := by unfold accN; rw [List.take_length]
theorem pu_loop (xs : List Nat) (acc : List UInt8) (hm : xs.length ≤ 100000000) (hx : ∀ x ∈ xs, x < 4294967296) (ha : acc.length ≤ 1000000000) :
    ∀ x : { k : Nat // k ≤ xs.length }, LoopOk Try.prog 19 (loopOf Try.prog 35 0) ((puI xs (accN acc xs x.1) x.1).fr 19) (.exit 0) ((puN (acc ++ xs.flatMap (leB 4))).fr 19) := by
  have hx' : ∀ i, i < xs.length → xs.getD i 0 < 4294967296 := fun i hi => by
    rw [List.getD_eq_getElem?_getD, List.getElem?_eq_getElem hi]; exact hx _ (List.getElem_mem hi)
  refine loop_ok (L := 100) (run_ok (L := 100) i_names (baseC_ok selPut_ok) (noLoop_ok _) 3) (noLoop_any _ _ 35) (fun _ h => h) (X := { k : Nat // k ≤ xs.length }) (fun x => puI xs (accN acc xs x.1) x.1) (fun _ => puN (acc ++ xs.flatMap (leB 4))) (fun _ => .exit 0) (fun x => xs.length - x.1) (fun x => pu_wf xs (accN acc xs x.1) x.1) ?_
  rintro ⟨k, hk⟩
  by_cases h : k < xs.length
  · have hl := accN_len acc xs k
    obtain ⟨g, h1, h2, h3⟩ := pu_step_next xs (accN acc xs k) (acc ++ xs.flatMap (leB 4)) k hm h (hx' k h) (by omega)
    rw [← accN_succ acc xs k h] at h3
    exact ⟨_, .normal, g, 3, _, _, h1, h2, .inl ⟨rfl, ⟨k + 1, by omega⟩, by show xs.length - (k + 1) < xs.length - k; omega, rfl, rfl, h3⟩⟩
  · have he : k = xs.length := by omega
    obtain ⟨g, h1, h2, h3⟩ := pu_step_end xs (accN acc xs k) k he
    subst he
    rw [accN_all] at h1 h3
    exact ⟨_, .exit 0, g, 3, _, _, by rw [accN_all]; exact h1, h2, .inr ⟨by simp, rfl, by rw [accN_all]; exact h3⟩⟩
def puEnt (xs : List Nat) (acc : List UInt8) (hm : xs.length ≤ 100000000) (hx : ∀ x ∈ xs, x < 4294967296) (ha : acc.length ≤ 1000000000) : Ent Try.prog :=
  entC Try.prog 35 0 19 (puI xs acc 0) (.exit 0) (puN (acc ++ xs.flatMap (leB 4))) (by kernel_rfl) (by kernel_rfl) (by
    have := pu_loop xs acc hm hx ha ⟨0, Nat.zero_le _⟩
    have e : accN acc xs 0 = acc := by unfold accN; simp
    simp only [e] at this
    exact this)
end Go.Proofs.Ytdljpnebpoaeiaa
namespace Go.Proofs.Ytdljpnebpoaeiaa.Sy
open Go.RowKit
structure FlatC (c : Con) : Prop where
  flat : ∀ x ∈ c.h', x.2.op ≠ none → ∀ v ∈ x.2.cells, flat0 v = true
def Con.useF (q : Prop) (d : Nat) (c : Con) (ρ : List Nat) (args : List Value) (s : St) : Res :=
  bif (c.h'.all fun x => Nat.blt (lift c.n s.n ρ x.1) (s.n + (c.n' - c.n))) && (c.lo'.all fun x => Nat.blt (lift c.n s.n ρ x.1) (s.n + (c.n' - c.n))) && injB (lift c.n s.n ρ) c.h then
    some (rnV (lift c.n s.n ρ) d c.res,
      { n := s.n + (c.n' - c.n),
        h := rnHf (lift c.n s.n ρ) d c.h' ++ s.h.filter (fun x => !(c.h.any fun y => y.2.rw && Nat.beq (lift c.n s.n ρ y.1) x.1)),
        lo := (c.lo'.map fun y => (lift c.n s.n ρ y.1, y.2)) ++ s.lo,
        esc := s.esc, T := s.T, k := s.k,
        O := s.O ∧ q ∧ sameA (lift c.n s.n ρ) d args c.args ∧ SeenH d (fun l => Nat.blt l c.n) (lift c.n s.n ρ) s.h c.h ∧ SeenO (fun l => Nat.blt l c.n) (lift c.n s.n ρ) s.lo c.lo })
  else none
theorem Con.useF_ok {P : Program} {f : FuncId} {d : Nat} {c : Con} {q : Prop} (hc : q → ConOk P f d c) (hf : FlatC c) {ρ : List Nat} {args : List Value} {s s' : St} {v : Value} (h : c.useF q d ρ args s = some (v, s')) :
    Mono s s' ∧ (s'.O → Enters P f ∧ CallOk P f args s v s') := by
  have e : c.useF q d ρ args s = c.use q d ρ args s := by
    unfold Con.useF Con.use
    rw [rnHf_eq (d := d) hf.flat]
  rw [e] at h
  exact Con.use_ok hc h
def baseF (d : Nat) (sel : SelC) (b : CallK) : CallK := fun f args s => match sel f args s with
  | some x => x.1.useF x.2.2 d x.2.1 args s
  | none => b f args s
theorem baseF_ok {P : Program} {d : Nat} {sel : SelC} {b : CallK} (h : ∀ f args s c ρ q, sel f args s = some (c, ρ, q) → (q → ConOk P f d c) ∧ FlatC c) (hb : SoundCall P b) : SoundCall P (baseF d sel b) := by
  intro f args s v s' hc
  unfold baseF at hc
  split at hc
  · rename_i x hx
    obtain ⟨c, ρ, q⟩ := x
    obtain ⟨h1, h2⟩ := h f args s c ρ q hx
    exact Con.useF_ok h1 h2 hc
  · exact hb f args s v s' hc
def lpEsc {P : Program} (l : List (Ent P)) : FuncId → LoopK := fun g nt c f => (lpOf l g nt c f).map fun x => (x.1, ⟨x.2.e, { x.2.s with esc := 0 }⟩)
theorem lpEsc_ok {P : Program} (l : List (Ent P)) : ∀ f fn c, P.funcs[f]? = some fn → fn.body = some c → SoundLoop P (loops c) (lpEsc l f) := by
  intro g fn cb h1 h2 nt c f f' x h
  unfold lpEsc at h
  obtain ⟨y, hy, he⟩ := Option.map_eq_some_iff.1 h
  have := lpOf_ok l g fn cb h1 h2 nt c f y.2 y.1 hy
  simp only [Prod.mk.injEq] at he
  obtain ⟨rfl, rfl⟩ := he
  refine ⟨⟨this.1.1, this.1.2.1, this.1.2.2⟩, fun hm hO r a w Q hf hwf hg hfr hQ => this.2 hm hO r a w Q hf hwf hg hfr ?_⟩
  intro r' a' w' T hf'
  exact hQ r' a' w' (T.trans (To.same T.good rfl rfl rfl)) hf'
end Go.Proofs.Ytdljpnebpoaeiaa.Sy
namespace Go.Proofs.Ytdljpnebpoaeiaa
set_option linter.unusedVariables false
set_option linter.unusedSimpArgs false
open Go.RowKit
open Sy
def pvA (xs : List Nat) : List Value := [.int .i64 4, .slice (some ⟨64, 0, none⟩) xs.length (big + 64), .pointer (some ⟨65, 0, none⟩)]
def pvH (xs : List Nat) (acc : List UInt8) : Sy.Heap := [(64, ⟨false, some (0, 0), u32s xs, none⟩), (65, ⟨true, none, [.slice (some ⟨66, 0, none⟩) acc.length (big + 66)], none⟩), (66, ⟨true, some (66, 1), u8s acc, none⟩)]
def pvE (acc : List UInt8) : Sy.Heap := [(65, ⟨true, none, [.slice (some ⟨67, 0, none⟩) acc.length (big + 67)], none⟩), (67, ⟨true, some (67, 1), u8s acc, none⟩)]
theorem pv_run (xs : List Nat) (acc : List UInt8) (hm : xs.length ≤ 100000000) (hx : ∀ (x : Nat), x ∈ xs → x < 4294967296) (ha : acc.length ≤ 1000000000) : evF Try.prog (baseC 3 selPut) (lpEsc [puEnt xs acc hm hx ha]) 100 10 35 (pvA xs) { n := 67, h := pvH xs acc, lo := [(66, acc.length)], esc := 0, T := [], k := 0, O := True : St } = some (undef, { n := 68, h := [(65, { rw := true, op := none, cells := [Value.slice (some { block := 67, off := 0 }) (acc ++ List.flatMap (leB 4) xs).length 9223372036854775875], it := none : Sy.Blk }), (67, { rw := true, op := some (67, 1), cells := u8s (acc ++ List.flatMap (leB 4) xs), it := none : Sy.Blk }), (64, { rw := false, op := some (0, 0), cells := u32s xs, it := none : Sy.Blk })], lo := [(67, (acc ++ List.flatMap (leB 4) xs).length), (66, acc.length)], esc := 0, T := [], k := 0, O := True ∧ (Value.int IntKind.i64 (4 : Int) = Value.int IntKind.i64 (4 : Int) ∧ Value.pointer (some { block := 65, off := 0 }) = Value.pointer (some { block := 65, off := 0 }) ∧ Value.slice (some { block := 64, off := 0 }) xs.length 9223372036854775872 = Value.slice (some { block := 64, off := 0 }) xs.length 9223372036854775872 ∧ Value.int IntKind.i64 (↑xs.length : Int) = Value.int IntKind.i64 (↑xs.length : Int) ∧ Value.int IntKind.i64 (0 : Int) = Value.int IntKind.i64 (0 : Int) ∧ True) ∧ ((true = true ∧ true = true ∧ True ∧ u32s xs = u32s xs) ∧ (true = true ∧ true = true ∧ True ∧ [Value.slice (some { block := 66, off := 0 }) acc.length 9223372036854775874] = [Value.slice (some { block := 66, off := 0 }) acc.length 9223372036854775874]) ∧ (true = true ∧ true = true ∧ True ∧ u8s acc = u8s acc) ∧ True) ∧ (acc.length ≤ acc.length ∧ True) ∧ True : St }) := by kernel_rfl
def pvC (xs : List Nat) (acc : List UInt8) : Con := ⟨pvA xs, 67, pvH xs acc, [(66, acc.length)], undef, 68, pvE (acc ++ xs.flatMap (leB 4)), [(67, (acc ++ xs.flatMap (leB 4)).length)]⟩
def pvOk (xs : List Nat) (acc : List UInt8) : Prop := xs.length ≤ 100000000 ∧ (∀ x ∈ xs, x < 4294967296) ∧ acc.length ≤ 1000000000
theorem pv_flat (xs : List Nat) (acc : List UInt8) : FlatC (pvC xs acc) := ⟨fun x hx hne => by
  simp only [pvC, pvE, List.mem_cons, List.not_mem_nil, or_false] at hx
  rcases hx with rfl | rfl
  · exact absurd rfl hne
  · exact u8s_flat _⟩
theorem pv_con (xs : List Nat) (acc : List UInt8) (h : pvOk xs acc) : ConOk Try.prog 35 3 (pvC xs acc) := by
  obtain ⟨hm, hx, ha⟩ := h
  have k1 : ∀ n : Nat, ([.slice (some ⟨66, 0, none⟩) n (big + 66)] : List Value).all (okV (fun l => Nat.blt l 67) 3) = true := fun n => by kernel_rfl
  have k2 : ∀ n : Nat, ([.slice (some ⟨67, 0, none⟩) n (big + 67)] : List Value).all (okV (fun l => Nat.blt l 68) 3) = true := fun n => by kernel_rfl
  have k3 : ∀ n : Nat, ([.slice (some ⟨67, 0, none⟩) n (big + 67)] : List Value).all (okV (keeps 67 68 id (fun l => Nat.blt l 68)) 3) = true := fun n => by kernel_rfl
  refine conOk_run (T := []) (run_ok (L := 100) i_names (baseC_ok selPut_ok) (lpEsc_ok _) 10) ?_ (pv_run xs acc hm hx ha) ?_ (p := fun l => Nat.blt l 68) (σ := id) ?_
  · exact ⟨by show NG ≤ 67; decide, by show 67 ≤ 68; omega, ⟨⟨rfl, rfl, flat_bnd (u32s_flat xs)⟩, ⟨rfl, rfl, fun v hv => okV_bnd 3 v (List.all_eq_true.1 (k1 _) v hv)⟩, ⟨rfl, rfl, flat_bnd (u8s_flat acc)⟩, trivial⟩, rfl, rfl, rfl, by kernel_rfl, rfl, fun x hx v hv => by
      simp only [pvC, pvE, List.mem_cons, List.not_mem_nil, or_false] at hx
      rcases hx with rfl | rfl
      · exact List.all_eq_true.1 (k2 _) v hv
      · exact okV_flat0 (u8s_flat _ v hv) 3⟩
  · repeat' (with_reducible apply And.intro)
    all_goals first | with_reducible rfl | with_reducible trivial | exact Nat.le_refl _
  · exact ⟨fun _ _ => rfl, ⟨⟨rfl, k2 _, rfl, rfl, rfl, trivial, by kernel_rfl⟩, ⟨rfl, flat_all (u8s_flat _), rfl, rfl, rfl, trivial, (flat_map (u8s_flat _)).symm⟩, trivial⟩, rfl, ⟨⟨rfl, Nat.le_refl _⟩, trivial⟩, ⟨rfl, rfl⟩, rfl, ⟨⟨rfl, rfl, fun v hv => okV_bnd 3 v (List.all_eq_true.1 (k3 _) v hv)⟩, ⟨rfl, rfl, flat_bnd (u8s_flat _)⟩, trivial⟩, rfl, bnd_undef _, fun x _ _ => .inl rfl⟩
end Go.Proofs.Ytdljpnebpoaeiaa
namespace Go.Proofs.Ytdljpnebpoaeiaa
set_option linter.unusedVariables false
set_option linter.unusedSimpArgs false
open Go.RowKit
open Sy
def reI (p s t : Int) (nr ns : Nat) (d : List UInt8) (xs : List Nat) (acc : List UInt8) (k : Nat) : Sf :=
  ⟨72, [(1, .pointer (some ⟨67, 0, none⟩)), (5, .slice (some ⟨71, 0, none⟩) acc.length (big + 71)), (6, .int .i64 (k : Nat))],
    [(64, ⟨false, some (0, 0), u32s xs, none⟩), (67, ⟨false, none, imgL p s t xs.length nr ns d, none⟩), (71, ⟨true, some (71, 1), u8s acc, none⟩)], [(71, acc.length)]⟩
def reN (acc : List UInt8) : Sf := ⟨73, [(1, .pointer (some ⟨67, 0, none⟩)), (5, .slice (some ⟨72, 0, none⟩) acc.length (big + 72))], [(72, ⟨true, some (72, 1), u8s acc, none⟩)], [(72, acc.length)]⟩
theorem re_next (p : Int) (s : Int) (t : Int) (nr : Nat) (ns : Nat) (d : List UInt8) (xs : List Nat) (acc : List UInt8) (k : Nat) : evC Try.prog (evF Try.prog (baseC 3 selPut) noLoop 100 5) (noLoop 19) 122 100 (loopOf Try.prog 19 0) (Sf.frT 122 (reI p s t nr ns d xs acc k) [(0, true)]) = some (Exit.normal, { e := [[unk, Value.pointer (some { block := 67, off := 0 }), unk, unk, unk, Value.slice (some { block := 72, off := 0 }) (acc.length + lenT ([] ++ leB 4 (intOf' (getD' undef (u32s xs) (0 + (↑k : Int).toNat * 1))).toNat)) 9223372036854775880, Value.int IntKind.i64 (IntKind.i64.wrap ((↑k : Int) + (1 : Int))), unk, unk, unk, unk, unk, unk, unk, unk, unk], [unk, unk, unk, unk, unk, unk, unk, unk, unk, unk, unk, unk, unk, unk, unk, unk], [unk, unk, Value.int IntKind.i64 (↑k : Int), Value.pointer (some { block := 67, off := 3 }), Value.slice (some { block := 64, off := 0 }) xs.length 9223372036854775872, Value.int IntKind.i64 (↑xs.length : Int), Value.bool (decide ((↑k : Int) < (↑xs.length : Int))), Value.int IntKind.i64 (↑k : Int), Value.int IntKind.i64 (IntKind.i64.wrap ((↑k : Int) + (1 : Int))), Value.slice (some { block := 71, off := 0 }) acc.length 9223372036854775879, Value.pointer (some { block := 67, off := 3 }), Value.slice (some { block := 64, off := 0 }) xs.length 9223372036854775872, Value.int IntKind.i64 (↑k : Int), Value.pointer (some { block := 64, off := 0 + (↑k : Int).toNat * 1 }), Value.int IntKind.u32 (intOf' (getD' undef (u32s xs) (0 + (↑k : Int).toNat * 1))), Value.slice (some { block := 72, off := 0 }) (acc.length + lenT ([] ++ leB 4 (intOf' (getD' undef (u32s xs) (0 + (↑k : Int).toNat * 1))).toNat)) 9223372036854775880], [unk, unk, unk, unk, unk, unk, unk, unk, unk, unk, unk, unk, unk, unk, unk, unk], [unk, unk, unk, unk, unk, unk, unk, unk, unk, unk, unk, unk, unk, unk, unk, unk], [unk, unk, unk, unk, unk, unk, unk, unk, unk, unk, unk, unk, unk, unk, unk, unk], [unk, unk, unk, unk, unk, unk, unk, unk, unk, unk, unk, unk, unk, unk, unk, unk], [unk, unk, unk, unk, unk, unk, unk, unk, unk, unk, unk, unk, unk, unk, unk, unk]], s := { n := 73, h := [(72, { rw := true, op := some (72, 1), cells := u8s acc ++ List.map (fun c => Value.int IntKind.u8 (↑c.toNat : Int)) (List.take (lenT ([] ++ leB 4 (intOf' (getD' undef (u32s xs) (0 + (↑k : Int).toNat * 1))).toNat)) ([] ++ leB 4 (intOf' (getD' undef (u32s xs) (0 + (↑k : Int).toNat * 1))).toNat)), it := none : Sy.Blk }), (64, { rw := false, op := some (0, 0), cells := u32s xs, it := none : Sy.Blk }), (67, { rw := false, op := none, cells := [Value.int IntKind.i64 p, Value.int IntKind.i64 s, Value.int IntKind.i64 t, Value.slice (some { block := 64, off := 0 }) xs.length 9223372036854775872, Value.string { data := { toList := d : Array UInt8 } : ByteArray }, Value.slice (some { block := 65, off := 0 }) nr 9223372036854775873, Value.slice (some { block := 66, off := 0 }) ns 9223372036854775874], it := none : Sy.Blk })], lo := [(72, acc.length + lenT ([] ++ leB 4 (intOf' (getD' undef (u32s xs) (0 + (↑k : Int).toNat * 1))).toNat)), (71, acc.length)], esc := 0, T := [], k := 1, O := bif (lenT (u8s acc)).beq (acc.length * 1) then bif (lenT (List.map (fun c => Value.int IntKind.u8 (↑c.toNat : Int)) (List.take (lenT ([] ++ leB 4 (intOf' (getD' undef (u32s xs) (0 + (↑k : Int).toNat * 1))).toNat)) ([] ++ leB 4 (intOf' (getD' undef (u32s xs) (0 + (↑k : Int).toNat * 1))).toNat)))).beq (lenT ([] ++ leB 4 (intOf' (getD' undef (u32s xs) (0 + (↑k : Int).toNat * 1))).toNat) * 1) && oneC (List.map (fun c => Value.int IntKind.u8 (↑c.toNat : Int)) (List.take (lenT ([] ++ leB 4 (intOf' (getD' undef (u32s xs) (0 + (↑k : Int).toNat * 1))).toNat)) ([] ++ leB 4 (intOf' (getD' undef (u32s xs) (0 + (↑k : Int).toNat * 1))).toNat))) && ((acc.length + lenT ([] ++ leB 4 (intOf' (getD' undef (u32s xs) (0 + (↑k : Int).toNat * 1))).toNat)) * 1).ble 1099511627776 && (acc.length + lenT ([] ++ leB 4 (intOf' (getD' undef (u32s xs) (0 + (↑k : Int).toNat * 1))).toNat)).blt 4611686018427387904 then (bif hasN (0 + (↑k : Int).toNat * 1 + 1) (u32s xs) && isLikeL [Value.int IntKind.u32 (0 : Int)] (u32s xs) (0 + (↑k : Int).toNat * 1) then bif decide ((0 : Int) ≤ (↑k : Int)) && decide ((↑k : Int) < (↑xs.length : Int)) then True ∧ decide ((↑k : Int) < (↑xs.length : Int)) = true else False else False) ∧ (([] : List UInt8).length ≤ 1000000000 ∧ ((4 : Int) = (1 : Int) ∨ (4 : Int) = (2 : Int) ∨ (4 : Int) = (4 : Int)) ∧ (0 : Int) ≤ intOf' (getD' undef (u32s xs) (0 + (↑k : Int).toNat * 1)) ∧ intOf' (getD' undef (u32s xs) (0 + (↑k : Int).toNat * 1)) < (4294967296 : Int)) ∧ (Value.string { data := #[] : ByteArray } = Value.string { data := { toList := [] : Array UInt8 } : ByteArray } ∧ Value.int IntKind.i64 (4 : Int) = Value.int IntKind.i64 (4 : Int) ∧ Value.int IntKind.u32 (intOf' (getD' undef (u32s xs) (0 + (↑k : Int).toNat * 1))) = Value.int IntKind.u32 (intOf' (getD' undef (u32s xs) (0 + (↑k : Int).toNat * 1))) ∧ True) ∧ True ∧ True else False else False : St } : Fr }) := by kernel_rfl
theorem re_end (p : Int) (s : Int) (t : Int) (nr : Nat) (ns : Nat) (d : List UInt8) (xs : List Nat) (acc : List UInt8) (k : Nat) : evC Try.prog (evF Try.prog (baseC 3 selPut) noLoop 100 5) (noLoop 19) 122 100 (loopOf Try.prog 19 0) (Sf.frT 122 (reI p s t nr ns d xs acc k) [(0, false)]) = some (Exit.exit 0, { e := [[unk, Value.pointer (some { block := 67, off := 0 }), unk, unk, unk, Value.slice (some { block := 71, off := 0 }) acc.length 9223372036854775879, Value.int IntKind.i64 (↑k : Int), unk, unk, unk, unk, unk, unk, unk, unk, unk], [unk, unk, unk, unk, unk, unk, unk, unk, unk, unk, unk, unk, unk, unk, unk, unk], [unk, unk, Value.int IntKind.i64 (↑k : Int), Value.pointer (some { block := 67, off := 3 }), Value.slice (some { block := 64, off := 0 }) xs.length 9223372036854775872, Value.int IntKind.i64 (↑xs.length : Int), Value.bool (decide ((↑k : Int) < (↑xs.length : Int))), unk, unk, unk, unk, unk, unk, unk, unk, unk], [unk, unk, unk, unk, unk, unk, unk, unk, unk, unk, unk, unk, unk, unk, unk, unk], [unk, unk, unk, unk, unk, unk, unk, unk, unk, unk, unk, unk, unk, unk, unk, unk], [unk, unk, unk, unk, unk, unk, unk, unk, unk, unk, unk, unk, unk, unk, unk, unk], [unk, unk, unk, unk, unk, unk, unk, unk, unk, unk, unk, unk, unk, unk, unk, unk], [unk, unk, unk, unk, unk, unk, unk, unk, unk, unk, unk, unk, unk, unk, unk, unk]], s := { n := 72, h := [(64, { rw := false, op := some (0, 0), cells := u32s xs, it := none : Sy.Blk }), (67, { rw := false, op := none, cells := [Value.int IntKind.i64 p, Value.int IntKind.i64 s, Value.int IntKind.i64 t, Value.slice (some { block := 64, off := 0 }) xs.length 9223372036854775872, Value.string { data := { toList := d : Array UInt8 } : ByteArray }, Value.slice (some { block := 65, off := 0 }) nr 9223372036854775873, Value.slice (some { block := 66, off := 0 }) ns 9223372036854775874], it := none : Sy.Blk }), (71, { rw := true, op := some (71, 1), cells := u8s acc, it := none : Sy.Blk })], lo := [(71, acc.length)], esc := 0, T := [], k := 1, O := True ∧ decide ((↑k : Int) < (↑xs.length : Int)) = false : St } : Fr }) := by kernel_rfl
def reσ (l : Nat) : Nat := if l = 71 then 72 else l
def reτ (l : Nat) : Nat := if l = 72 then 71 else l
theorem re_wf (p s t : Int) (nr ns : Nat) (d : List UInt8) (xs : List Nat) (acc : List UInt8) (k : Nat) : (reI p s t nr ns d xs acc k).Wf :=
  ⟨by show NG ≤ 72; decide, Sf.Ok.mk' 3 ⟨⟨rfl, rfl, flat_bnd (u32s_flat xs)⟩, ⟨rfl, rfl, fun v hv => okV_bnd 3 v (List.all_eq_true.1 (show (imgL p s t xs.length nr ns d).all (okV (fun l => Nat.blt l 72) 3) = true from by kernel_rfl) v hv)⟩, ⟨rfl, rfl, flat_bnd (u8s_flat acc)⟩, trivial⟩ rfl (fun x hx => by
    have : (reI p s t nr ns d xs acc k).e.all (fun x => okV (fun l => Nat.blt l 72) 3 x.2) = true := by kernel_rfl
    exact List.all_eq_true.1 this x hx)⟩
theorem reN_ok (acc : List UInt8) (σ : Nat → Nat) (p : Nat → Bool) (h : keeps 72 73 σ p 67 = true) (h9 : keeps 72 73 σ p 72 = true) : (reN acc).Ok (keeps 72 73 σ p) :=
  ⟨⟨⟨h9, h9, flat_bnd (u8s_flat acc)⟩, trivial⟩, by simp [reN, h9], fun x hx => by
    simp only [reN, List.mem_cons, List.not_mem_nil, or_false] at hx
    rcases hx with rfl | rfl
    · rw [bnd_ptr]; simp only [bndA, h, Bool.and_self]
    · rw [bnd_slice]
      simp only [bndA, h9, Bool.and_true, Bool.true_and, Bool.or_eq_true]
      right
      rw [show big + 72 - big = 72 from Nat.add_sub_cancel_left _ _]; exact h9⟩
theorem re_step_next (p s t : Int) (nr ns : Nat) (d : List UInt8) (xs : List Nat) (acc : List UInt8) (fin : List UInt8) (k : Nat) (hm : xs.length ≤ 100000000) (hk : k < xs.length) (hx : xs.getD k 0 < 4294967296) (ha : acc.length ≤ 100000000000) :
    ∃ g, evC Try.prog (evF Try.prog (baseC 3 selPut) noLoop 100 5) (noLoop 19) 122 100 (loopOf Try.prog 19 0) ((reI p s t nr ns d xs acc k).frT 122 [(0, true)]) = some (.normal, g) ∧ g.s.O ∧ Sf.Leads 3 (fun l => Nat.blt l 72) reσ (reI p s t nr ns d xs acc k) g (reI p s t nr ns d xs (acc ++ leB 4 (xs.getD k 0)) (k + 1)) (reN fin) := by
  have hh := re_next p s t nr ns d xs acc k
  simp only [u32s_at, Int.toNat_natCast, Nat.zero_add, Nat.mul_one, lenT_eq, List.nil_append, leB_len, pu_cells, u8s_app, u8s_len] at hh
  have e4 : acc.length + 4 = (acc ++ leB 4 (xs.getD k 0)).length := by rw [List.length_append, leB_len]
  rw [e4] at hh
  refine ⟨_, hh, ?_, ?_⟩
  · have g1 : hasN (k + 1) (u32s xs) = true := by rw [u32s_has]; simp; omega
    have g2 : isLikeL [Value.int IntKind.u32 (0 : Int)] (u32s xs) k = true := by rw [u32s_like]; simp; omega
    have g3 : oneC (u8s (leB 4 (xs.getD k 0))) = true := oneC_flat (u8s_flat _)
    have g6 : (acc.length + 4).ble 1099511627776 = true := ble_true (by omega)
    have g7 : (acc.length + 4).blt 4611686018427387904 = true := blt_true (by omega)
    have g8 : decide ((0 : Int) ≤ (k : Int)) = true := by simp
    have g9 : decide ((k : Int) < (xs.length : Int)) = true := by simp; omega
    have g10 : (0 : Int) ≤ ((xs.getD k 0 : Nat) : Int) := by omega
    have g11 : ((xs.getD k 0 : Nat) : Int) < 4294967296 := by omega
    simp only [u8s_len, leB_len, List.length_append, Nat.mul_one, Nat.beq_refl, g1, g2, g3, g6, g7, g8, g9, g10, g11, Bool.and_self, cond_true, and_true, true_and, and_self, or_true, List.length_nil, Nat.zero_le]
  · refine ⟨fun l hl => ?_, ⟨⟨rfl, flat_all (u32s_flat xs), rfl, rfl, rfl, trivial, (flat_map (u32s_flat xs)).symm⟩, ⟨rfl, by kernel_rfl, rfl, rfl, rfl, trivial, by kernel_rfl⟩, ⟨rfl, flat_all (u8s_flat _), rfl, rfl, rfl, trivial, (flat_map (u8s_flat _)).symm⟩, trivial⟩, rfl, ⟨⟨rfl, Nat.le_refl _⟩, trivial⟩, ⟨⟨by kernel_rfl, by kernel_rfl⟩, ⟨by kernel_rfl, by kernel_rfl⟩, ⟨rfl, ?_⟩, trivial⟩, Nat.le_refl _, fun l hl => blt_no hl, reN_ok fin reσ _ rfl rfl, ?_⟩
    · unfold reσ; have : NG ≤ 66 := by decide
      rw [if_neg (by omega)]
    · refine Eq.trans (b := Value.int .i64 (IntKind.i64.wrap ((k : Int) + 1))) (by kernel_rfl) ?_
      rw [cast_succ_i64 k (by omega)]; rfl
    · intro x hx hrw
      simp only [reI, List.mem_cons, List.not_mem_nil, or_false] at hx
      rcases hx with rfl | rfl | rfl
      · exact .inl rfl
      · exact .inl rfl
      · cases hrw
theorem re_step_end (p s t : Int) (nr ns : Nat) (d : List UInt8) (xs : List Nat) (acc : List UInt8) (k : Nat) (hk : k = xs.length) :
    ∃ g, evC Try.prog (evF Try.prog (baseC 3 selPut) noLoop 100 5) (noLoop 19) 122 100 (loopOf Try.prog 19 0) ((reI p s t nr ns d xs acc k).frT 122 [(0, false)]) = some (.exit 0, g) ∧ g.s.O ∧ Sf.Leads 3 (fun l => Nat.blt l 73) reτ (reI p s t nr ns d xs acc k) g (reN acc) (reN acc) := by
  refine ⟨_, re_end p s t nr ns d xs acc k, ?_, ?_⟩
  · subst hk; simp
  · refine ⟨fun l hl => ?_, ⟨⟨rfl, flat_all (u8s_flat _), rfl, rfl, rfl, trivial, (flat_map (u8s_flat _)).symm⟩, trivial⟩, rfl, ⟨⟨rfl, Nat.le_refl _⟩, trivial⟩, ⟨⟨by kernel_rfl, by kernel_rfl⟩, ⟨by kernel_rfl, by kernel_rfl⟩, trivial⟩, by show 72 ≤ 73; omega, fun l hl => blt_no hl, reN_ok acc reτ _ rfl rfl, fun x hx hrw => ?_⟩
    · unfold reτ; have : NG ≤ 66 := by decide
      rw [if_neg (by omega)]
    · simp only [reN, List.mem_cons, List.not_mem_nil, or_false] at hx
      rcases hx with rfl
      cases hrw
theorem re_loop (p s t : Int) (nr ns : Nat) (d : List UInt8) (xs : List Nat) (acc : List UInt8) (hm : xs.length ≤ 100000000) (hx : ∀ x ∈ xs, x < 4294967296) (ha : acc.length ≤ 1000000000) :
    ∀ x : { k : Nat // k ≤ xs.length }, LoopOk Try.prog 122 (loopOf Try.prog 19 0) ((reI p s t nr ns d xs (accN acc xs x.1) x.1).fr 122) (.exit 0) ((reN (acc ++ xs.flatMap (leB 4))).fr 122) := by
  have hx' : ∀ i, i < xs.length → xs.getD i 0 < 4294967296 := fun i hi => by
    rw [List.getD_eq_getElem?_getD, List.getElem?_eq_getElem hi]; exact hx _ (List.getElem_mem hi)
  refine loop_ok (L := 100) (run_ok (L := 100) i_names (baseC_ok selPut_ok) (noLoop_ok _) 5) (noLoop_any _ _ 19) (fun _ h => h) (X := { k : Nat // k ≤ xs.length }) (fun x => reI p s t nr ns d xs (accN acc xs x.1) x.1) (fun _ => reN (acc ++ xs.flatMap (leB 4))) (fun _ => .exit 0) (fun x => xs.length - x.1) (fun x => re_wf p s t nr ns d xs (accN acc xs x.1) x.1) ?_
  rintro ⟨k, hk⟩
  by_cases h : k < xs.length
  · have hl := accN_len acc xs k
    obtain ⟨g, h1, h2, h3⟩ := re_step_next p s t nr ns d xs (accN acc xs k) (acc ++ xs.flatMap (leB 4)) k hm h (hx' k h) (by omega)
    rw [← accN_succ acc xs k h] at h3
    exact ⟨_, .normal, g, 3, _, _, h1, h2, .inl ⟨rfl, ⟨k + 1, by omega⟩, by show xs.length - (k + 1) < xs.length - k; omega, rfl, rfl, h3⟩⟩
  · have he : k = xs.length := by omega
    obtain ⟨g, h1, h2, h3⟩ := re_step_end p s t nr ns d xs (accN acc xs k) k he
    subst he
    rw [accN_all] at h1 h3
    exact ⟨_, .exit 0, g, 3, _, _, by rw [accN_all]; exact h1, h2, .inr ⟨by simp, rfl, by rw [accN_all]; exact h3⟩⟩
def reEnt (p s t : Int) (nr ns : Nat) (d : List UInt8) (xs : List Nat) (acc : List UInt8) (hm : xs.length ≤ 100000000) (hx : ∀ x ∈ xs, x < 4294967296) (ha : acc.length ≤ 1000000000) : Ent Try.prog :=
  entC Try.prog 19 0 122 (reI p s t nr ns d xs acc 0) (.exit 0) (reN (acc ++ xs.flatMap (leB 4))) (by kernel_rfl) (by kernel_rfl) (by
    have := re_loop p s t nr ns d xs acc hm hx ha ⟨0, Nat.zero_le _⟩
    have e : accN acc xs 0 = acc := by unfold accN; simp
    simp only [e] at this
    exact this)
end Go.Proofs.Ytdljpnebpoaeiaa
