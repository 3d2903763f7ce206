/-
  ImageChecks: part 5 of the proof.
-/
import Derived.Below
import Derived.ChangeOld
import Derived.ChangeSame
import Derived.ChangeSlices
import Derived.Deep.Fields
import Derived.Deep.Slices
import Derived.Lib.SmallJoins
import Derived.OpenShut
import Derived.ProofKit
import Derived.ShutString
import Derived.Test.YtdljpnebpoaeiaaQImageChecksD
import Derived.Test.YtdljpnebpoaeiaaRows
import Derived.WalkKit
namespace Go.Proofs.Ytdljpnebpoaeiaa
set_option linter.unusedVariables false
set_option linter.unusedSimpArgs false
open Go.RowKit
open Sy
def imD (pages stack types : Int) (nc : Nat) (data : List UInt8) (rs : List Rl) (starts : List Nat) (v : Value) : Con := ⟨[imgV pages stack types nc rs.length starts.length data], 67, imH rs starts, [], v, 67, [], []⟩
def selLayAt (rs : List Rl) (starts : List Nat) : SelC := fun f args _ =>
  match args with
  | [.agg ⟨[.int _ pages, .int _ stack, .int _ types, .slice (some i) nc _, .string ⟨⟨data⟩⟩, .slice (some j) _ _, .slice (some k) _ _]⟩] =>
    bif Nat.beq f 10 then some (imD pages stack types nc data rs starts (layRes pages stack types nc data rs starts), [i.block, j.block, k.block], ImOk rs starts)
    else bif Nat.beq f 15 then some (imD pages stack types nc data rs starts (chkV pages stack types nc data rs starts), [i.block, j.block, k.block], ImOk rs starts) else none
  | _ => none
theorem selLayAt_ok (rs : List Rl) (starts : List Nat) : SelOk Try.prog 3 (selLayAt rs starts) := by
  intro f args s c ρ q h hq
  unfold selLayAt at h
  split at h
  · rename_i pages _ stack _ types i nc _ data j _ _ k _ _
    cases h1 : Nat.beq f 10 <;> rw [h1] at h
    · simp only [cond_false] at h
      obtain ⟨h2, h⟩ := bif_some h
      have h2 := Nat.eq_of_beq_eq_true h2
      subst h2
      cases h
      exact (chk_con _ _ _ _ _ rs starts hq).drop
    · have h1 := Nat.eq_of_beq_eq_true h1
      subst h1
      cases h
      exact (lay_con _ _ _ _ _ rs starts hq).drop
  · cases h
theorem ichk (pages : Int) (stack : Int) (types : Int) (nc : Nat) (data : List UInt8) (rs : List Rl) (starts : List Nat) : evF Try.prog (baseR 3 (selLayAt rs starts) (baseC 3 selK)) noLoop 100 10 14 [imgV pages stack types nc rs.length starts.length data] { n := 67, h := imH rs starts, lo := [], esc := 0, T := [], k := 0, O := True : St } = some (Value.int IntKind.i64 (↑(errOf pages stack types nc data rs starts) : Int), { n := 69, h := [(65, { rw := false, op := some (0, 0), cells := rels rs, it := none : Sy.Blk }), (66, { rw := false, op := some (0, 0), cells := u32s starts, it := none : Sy.Blk })], lo := [], esc := 0, T := [], k := 0, O := True ∧ ImOk rs starts ∧ (Value.agg { toList := [Value.int IntKind.i64 pages, Value.int IntKind.i64 stack, Value.int IntKind.i64 types, Value.slice (some { block := 64, off := 0 }) nc 9223372036854775872, Value.string { data := { toList := data : Array UInt8 } : ByteArray }, Value.slice (some { block := 65, off := 0 }) rs.length 9223372036854775873, Value.slice (some { block := 66, off := 0 }) starts.length 9223372036854775874] } = Value.agg { toList := [Value.int IntKind.i64 pages, Value.int IntKind.i64 stack, Value.int IntKind.i64 types, Value.slice (some { block := 64, off := 0 }) nc 9223372036854775872, Value.string { data := { toList := data : Array UInt8 } : ByteArray }, Value.slice (some { block := 65, off := 0 }) rs.length 9223372036854775873, Value.slice (some { block := 66, off := 0 }) starts.length 9223372036854775874] } ∧ True) ∧ (((true = true ∧ (rels rs).all (okV (fun l => l.blt 67) 3) = true ∧ true = true ∧ true = true ∧ true = true ∧ True ∧ rels rs = List.map (rnV (lift 67 68 [64, 65, 66]) 3) (rels rs)) ∧ (true = true ∧ (u32s starts).all (okV (fun l => l.blt 67) 3) = true ∧ true = true ∧ true = true ∧ true = true ∧ True ∧ u32s starts = List.map (rnV (lift 67 68 [64, 65, 66]) 3) (u32s starts)) ∧ True) ∧ true = true ∧ true = true) ∧ True : St }) := by kernel_rfl
theorem rlay_e (pages : Int) (stack : Int) (types : Int) (nc : Nat) (data : List UInt8) (rs : List Rl) (starts : List Nat) : evF Try.prog (baseR 3 (selLayAt rs starts) (baseC 3 selK)) noLoop 100 10 13 [imgV pages stack types nc rs.length starts.length data] { n := 67, h := imH rs starts, lo := [], esc := 0, T := [(0, true)], k := 0, O := True : St } = some (Value.tuple { toList := [Value.agg { toList := [Value.int IntKind.u32 (0 : Int), Value.int IntKind.u32 (0 : Int), Value.int IntKind.u32 (0 : Int), Value.int IntKind.u32 (0 : Int), Value.int IntKind.u32 (0 : Int), Value.int IntKind.u32 (0 : Int), Value.int IntKind.u32 (0 : Int), Value.int IntKind.u32 (0 : Int)] }, Value.int IntKind.i64 (↑(errOf pages stack types nc data rs starts) : Int)] }, { n := 69, h := [(65, { rw := false, op := some (0, 0), cells := rels rs, it := none : Sy.Blk }), (66, { rw := false, op := some (0, 0), cells := u32s starts, it := none : Sy.Blk })], lo := [], esc := 0, T := [], k := 1, O := (True ∧ ImOk rs starts ∧ (Value.agg { toList := [Value.int IntKind.i64 pages, Value.int IntKind.i64 stack, Value.int IntKind.i64 types, Value.slice (some { block := 64, off := 0 }) nc 9223372036854775872, Value.string { data := { toList := data : Array UInt8 } : ByteArray }, Value.slice (some { block := 65, off := 0 }) rs.length 9223372036854775873, Value.slice (some { block := 66, off := 0 }) starts.length 9223372036854775874] } = Value.agg { toList := [Value.int IntKind.i64 pages, Value.int IntKind.i64 stack, Value.int IntKind.i64 types, Value.slice (some { block := 64, off := 0 }) nc 9223372036854775872, Value.string { data := { toList := data : Array UInt8 } : ByteArray }, Value.slice (some { block := 65, off := 0 }) rs.length 9223372036854775873, Value.slice (some { block := 66, off := 0 }) starts.length 9223372036854775874] } ∧ True) ∧ (((true = true ∧ (rels rs).all (okV (fun l => l.blt 67) 3) = true ∧ true = true ∧ true = true ∧ true = true ∧ True ∧ rels rs = List.map (rnV (lift 67 69 [64, 65, 66]) 3) (rels rs)) ∧ (true = true ∧ (u32s starts).all (okV (fun l => l.blt 67) 3) = true ∧ true = true ∧ true = true ∧ true = true ∧ True ∧ u32s starts = List.map (rnV (lift 67 69 [64, 65, 66]) 3) (u32s starts)) ∧ True) ∧ true = true ∧ true = true) ∧ True) ∧ ((↑(errOf pages stack types nc data rs starts) : Int) != (0 : Int)) = true : St }) := by kernel_rfl
theorem rlay_k (pages : Int) (stack : Int) (types : Int) (nc : Nat) (data : List UInt8) (rs : List Rl) (starts : List Nat) : evF Try.prog (baseR 3 (selLayAt rs starts) (baseC 3 selK)) noLoop 100 10 13 [imgV pages stack types nc rs.length starts.length data] { n := 67, h := imH rs starts, lo := [], esc := 0, T := [(0, false)], k := 0, O := True : St } = some (Value.tuple { toList := [Value.agg { toList := [Value.int IntKind.u32 (0 : Int), Value.int IntKind.u32 (pk (layBig pages stack nc starts.length data.length) (r256 (4 * nc))), Value.int IntKind.u32 (pk (layBig pages stack nc starts.length data.length) (r256 (4 * nc))), Value.int IntKind.u32 (pk (layBig pages stack nc starts.length data.length) (r256 data.length)), Value.int IntKind.u32 (pk (layBig pages stack nc starts.length data.length) (r256 (4 * nc) + r256 data.length)), Value.int IntKind.u32 (pk (layBig pages stack nc starts.length data.length) (stack.toNat * starts.length)), Value.int IntKind.u32 (pk (layBig pages stack nc starts.length data.length) (layFrom stack nc starts.length data.length)), Value.int IntKind.u32 (pk (layBig pages stack nc starts.length data.length) (pages.toNat * 256 - layFrom stack nc starts.length data.length))] }, Value.int IntKind.i64 (0 : Int)] }, { n := 70, h := [(65, { rw := false, op := some (0, 0), cells := rels rs, it := none : Sy.Blk }), (66, { rw := false, op := some (0, 0), cells := u32s starts, it := none : Sy.Blk })], lo := [], esc := 0, T := [], k := 1, O := ((True ∧ ImOk rs starts ∧ (Value.agg { toList := [Value.int IntKind.i64 pages, Value.int IntKind.i64 stack, Value.int IntKind.i64 types, Value.slice (some { block := 64, off := 0 }) nc 9223372036854775872, Value.string { data := { toList := data : Array UInt8 } : ByteArray }, Value.slice (some { block := 65, off := 0 }) rs.length 9223372036854775873, Value.slice (some { block := 66, off := 0 }) starts.length 9223372036854775874] } = Value.agg { toList := [Value.int IntKind.i64 pages, Value.int IntKind.i64 stack, Value.int IntKind.i64 types, Value.slice (some { block := 64, off := 0 }) nc 9223372036854775872, Value.string { data := { toList := data : Array UInt8 } : ByteArray }, Value.slice (some { block := 65, off := 0 }) rs.length 9223372036854775873, Value.slice (some { block := 66, off := 0 }) starts.length 9223372036854775874] } ∧ True) ∧ (((true = true ∧ (rels rs).all (okV (fun l => l.blt 67) 3) = true ∧ true = true ∧ true = true ∧ true = true ∧ True ∧ rels rs = List.map (rnV (lift 67 69 [64, 65, 66]) 3) (rels rs)) ∧ (true = true ∧ (u32s starts).all (okV (fun l => l.blt 67) 3) = true ∧ true = true ∧ true = true ∧ true = true ∧ True ∧ u32s starts = List.map (rnV (lift 67 69 [64, 65, 66]) 3) (u32s starts)) ∧ True) ∧ true = true ∧ true = true) ∧ True) ∧ ((↑(errOf pages stack types nc data rs starts) : Int) != (0 : Int)) = false) ∧ ((0 : Int) ≤ pages ∧ pages ≤ (1024 : Int) ∧ (0 : Int) ≤ stack ∧ stack ≤ (4096 : Int) ∧ stack % (256 : Int) = (0 : Int) ∧ nc ≤ 4096 ∧ starts.length ≤ 4 ∧ data.length ≤ 16384) ∧ (Value.agg { toList := [Value.int IntKind.i64 pages, Value.int IntKind.i64 stack, Value.int IntKind.i64 types, Value.slice (some { block := 64, off := 0 }) nc 9223372036854775872, Value.string { data := { toList := data : Array UInt8 } : ByteArray }, Value.slice (some { block := 65, off := 0 }) rs.length 9223372036854775873, Value.slice (some { block := 66, off := 0 }) starts.length 9223372036854775874] } = Value.agg { toList := [Value.int IntKind.i64 pages, Value.int IntKind.i64 stack, Value.int IntKind.i64 types, Value.slice (some { block := 64, off := 0 }) nc 9223372036854775872, Value.string { data := { toList := data : Array UInt8 } : ByteArray }, Value.slice (some { block := 65, off := 0 }) rs.length 9223372036854775873, Value.slice (some { block := 66, off := 0 }) starts.length 9223372036854775874] } ∧ True) ∧ True ∧ True : St }) := by kernel_rfl
theorem own_nnn (pages : Int) (stack : Int) (types : Int) (data : List UInt8) (cs : List Nat) (rs : List Rl) (starts : List Nat) : evF Try.prog noBase noLoop 100 10 9 [Value.agg { toList := [Value.int IntKind.i64 pages, Value.int IntKind.i64 stack, Value.int IntKind.i64 types, Value.slice none 0 0, Value.string { data := { toList := data : Array UInt8 } : ByteArray }, Value.slice none 0 0, Value.slice none 0 0] }] { n := 67, h := [], lo := [(64, 0), (65, 0), (66, 0)], esc := 0, T := [], k := 0, O := True : St } = some (Value.agg { toList := [Value.int IntKind.i64 pages, Value.int IntKind.i64 stack, Value.int IntKind.i64 types, Value.slice (some { block := 70, off := 0 }) 0 9223372036854775878, Value.string { data := { toList := List.take ((if (20000 : Int) < (↑(lenT data) : Int) then (20000 : Int) else (↑(lenT data) : Int)).toNat - 0) (List.drop 0 data) : Array UInt8 } : ByteArray }, Value.slice (some { block := 72, off := 0 }) 0 9223372036854775880, Value.slice (some { block := 74, off := 0 }) 0 9223372036854775882] }, { n := 75, h := [(74, { rw := true, op := some (74, 1), cells := [], it := none : Sy.Blk }), (72, { rw := true, op := some (72, 6), cells := [], it := none : Sy.Blk }), (70, { rw := true, op := some (70, 1), cells := [], it := none : Sy.Blk }), (68, { rw := true, op := none, cells := [Value.int IntKind.i64 pages, Value.int IntKind.i64 stack, Value.int IntKind.i64 types, Value.slice (some { block := 70, off := 0 }) 0 9223372036854775878, Value.string { data := { toList := List.take ((if (20000 : Int) < (↑(lenT data) : Int) then (20000 : Int) else (↑(lenT data) : Int)).toNat - 0) (List.drop 0 data) : Array UInt8 } : ByteArray }, Value.slice (some { block := 72, off := 0 }) 0 9223372036854775880, Value.slice (some { block := 74, off := 0 }) 0 9223372036854775882], it := none : Sy.Blk }), (67, { rw := true, op := none, cells := [Value.int IntKind.i64 pages, Value.int IntKind.i64 stack, Value.int IntKind.i64 types, Value.slice (some { block := 70, off := 0 }) 0 9223372036854775878, Value.string { data := { toList := List.take ((if (20000 : Int) < (↑(lenT data) : Int) then (20000 : Int) else (↑(lenT data) : Int)).toNat - 0) (List.drop 0 data) : Array UInt8 } : ByteArray }, Value.slice (some { block := 72, off := 0 }) 0 9223372036854775880, Value.slice (some { block := 74, off := 0 }) 0 9223372036854775882], it := none : Sy.Blk })], lo := [(74, 0), (72, 0), (70, 0), (64, 0), (65, 0), (66, 0)], esc := 0, T := [], k := 0, O := bif decide ((0 : Int) ≤ if (20000 : Int) < (↑(lenT data) : Int) then (20000 : Int) else (↑(lenT data) : Int)) && decide ((if (20000 : Int) < (↑(lenT data) : Int) then (20000 : Int) else (↑(lenT data) : Int)) ≤ (↑(lenT data) : Int)) then True else False : St }) := by kernel_rfl
theorem own_nne (pages : Int) (stack : Int) (types : Int) (data : List UInt8) (cs : List Nat) (rs : List Rl) (starts : List Nat) : evF Try.prog noBase noLoop 100 10 9 [Value.agg { toList := [Value.int IntKind.i64 pages, Value.int IntKind.i64 stack, Value.int IntKind.i64 types, Value.slice none 0 0, Value.string { data := { toList := data : Array UInt8 } : ByteArray }, Value.slice none 0 0, Value.slice (some { block := 66, off := 0, spot := some 66 }) 0 (big + 66)] }] { n := 67, h := [], lo := [(64, 0), (65, 0), (66, 0)], esc := 0, T := [], k := 0, O := True : St } = some (Value.agg { toList := [Value.int IntKind.i64 pages, Value.int IntKind.i64 stack, Value.int IntKind.i64 types, Value.slice (some { block := 70, off := 0 }) 0 9223372036854775878, Value.string { data := { toList := List.take ((if (20000 : Int) < (↑(lenT data) : Int) then (20000 : Int) else (↑(lenT data) : Int)).toNat - 0) (List.drop 0 data) : Array UInt8 } : ByteArray }, Value.slice (some { block := 72, off := 0 }) 0 9223372036854775880, Value.slice (some { block := 74, off := 0 }) 0 9223372036854775882] }, { n := 75, h := [(74, { rw := true, op := some (74, 1), cells := [], it := none : Sy.Blk }), (72, { rw := true, op := some (72, 6), cells := [], it := none : Sy.Blk }), (70, { rw := true, op := some (70, 1), cells := [], it := none : Sy.Blk }), (68, { rw := true, op := none, cells := [Value.int IntKind.i64 pages, Value.int IntKind.i64 stack, Value.int IntKind.i64 types, Value.slice (some { block := 70, off := 0 }) 0 9223372036854775878, Value.string { data := { toList := List.take ((if (20000 : Int) < (↑(lenT data) : Int) then (20000 : Int) else (↑(lenT data) : Int)).toNat - 0) (List.drop 0 data) : Array UInt8 } : ByteArray }, Value.slice (some { block := 72, off := 0 }) 0 9223372036854775880, Value.slice (some { block := 74, off := 0 }) 0 9223372036854775882], it := none : Sy.Blk }), (67, { rw := true, op := none, cells := [Value.int IntKind.i64 pages, Value.int IntKind.i64 stack, Value.int IntKind.i64 types, Value.slice (some { block := 70, off := 0 }) 0 9223372036854775878, Value.string { data := { toList := List.take ((if (20000 : Int) < (↑(lenT data) : Int) then (20000 : Int) else (↑(lenT data) : Int)).toNat - 0) (List.drop 0 data) : Array UInt8 } : ByteArray }, Value.slice (some { block := 72, off := 0 }) 0 9223372036854775880, Value.slice (some { block := 74, off := 0 }) 0 9223372036854775882], it := none : Sy.Blk })], lo := [(74, 0), (72, 0), (70, 0), (64, 0), (65, 0), (66, 0)], esc := 0, T := [], k := 0, O := bif decide ((0 : Int) ≤ if (20000 : Int) < (↑(lenT data) : Int) then (20000 : Int) else (↑(lenT data) : Int)) && decide ((if (20000 : Int) < (↑(lenT data) : Int) then (20000 : Int) else (↑(lenT data) : Int)) ≤ (↑(lenT data) : Int)) then True else False : St }) := by kernel_rfl
theorem own_nnl (pages : Int) (stack : Int) (types : Int) (data : List UInt8) (cs : List Nat) (rs : List Rl) (starts : List Nat) : evF Try.prog noBase noLoop 100 10 9 [Value.agg { toList := [Value.int IntKind.i64 pages, Value.int IntKind.i64 stack, Value.int IntKind.i64 types, Value.slice none 0 0, Value.string { data := { toList := data : Array UInt8 } : ByteArray }, Value.slice none 0 0, Value.slice (some { block := 66, off := 0 }) starts.length (big + 66)] }] { n := 67, h := [(66, { rw := false, op := some (0, 0), cells := u32s starts, it := none : Sy.Blk })], lo := [(64, 0), (65, 0), (66, starts.length)], esc := 0, T := [], k := 0, O := True : St } = some (Value.agg { toList := [Value.int IntKind.i64 pages, Value.int IntKind.i64 stack, Value.int IntKind.i64 types, Value.slice (some { block := 70, off := 0 }) 0 9223372036854775878, Value.string { data := { toList := List.take ((if (20000 : Int) < (↑(lenT data) : Int) then (20000 : Int) else (↑(lenT data) : Int)).toNat - 0) (List.drop 0 data) : Array UInt8 } : ByteArray }, Value.slice (some { block := 72, off := 0 }) 0 9223372036854775880, Value.slice (some { block := 74, off := 0 }) (0 + (if (6 : Int) < (↑starts.length : Int) then (6 : Int) else (↑starts.length : Int)).toNat) 9223372036854775882] }, { n := 75, h := [(74, { rw := true, op := some (74, 1), cells := List.take ((if (6 : Int) < (↑starts.length : Int) then (6 : Int) else (↑starts.length : Int)).toNat * 1) (List.drop 0 (u32s starts)), it := none : Sy.Blk }), (72, { rw := true, op := some (72, 6), cells := [], it := none : Sy.Blk }), (70, { rw := true, op := some (70, 1), cells := [], it := none : Sy.Blk }), (68, { rw := true, op := none, cells := [Value.int IntKind.i64 pages, Value.int IntKind.i64 stack, Value.int IntKind.i64 types, Value.slice (some { block := 70, off := 0 }) 0 9223372036854775878, Value.string { data := { toList := List.take ((if (20000 : Int) < (↑(lenT data) : Int) then (20000 : Int) else (↑(lenT data) : Int)).toNat - 0) (List.drop 0 data) : Array UInt8 } : ByteArray }, Value.slice (some { block := 72, off := 0 }) 0 9223372036854775880, Value.slice (some { block := 74, off := 0 }) (0 + (if (6 : Int) < (↑starts.length : Int) then (6 : Int) else (↑starts.length : Int)).toNat) 9223372036854775882], it := none : Sy.Blk }), (67, { rw := true, op := none, cells := [Value.int IntKind.i64 pages, Value.int IntKind.i64 stack, Value.int IntKind.i64 types, Value.slice (some { block := 70, off := 0 }) 0 9223372036854775878, Value.string { data := { toList := List.take ((if (20000 : Int) < (↑(lenT data) : Int) then (20000 : Int) else (↑(lenT data) : Int)).toNat - 0) (List.drop 0 data) : Array UInt8 } : ByteArray }, Value.slice (some { block := 72, off := 0 }) 0 9223372036854775880, Value.slice (some { block := 74, off := 0 }) (0 + (if (6 : Int) < (↑starts.length : Int) then (6 : Int) else (↑starts.length : Int)).toNat) 9223372036854775882], it := none : Sy.Blk }), (66, { rw := false, op := some (0, 0), cells := u32s starts, it := none : Sy.Blk })], lo := [(74, 0 + (if (6 : Int) < (↑starts.length : Int) then (6 : Int) else (↑starts.length : Int)).toNat), (72, 0), (70, 0), (64, 0), (65, 0), (66, starts.length)], esc := 0, T := [], k := 0, O := bif (lenT (List.take ((if (6 : Int) < (↑starts.length : Int) then (6 : Int) else (↑starts.length : Int)).toNat * 1) (List.drop 0 (u32s starts)))).beq ((if (6 : Int) < (↑starts.length : Int) then (6 : Int) else (↑starts.length : Int)).toNat * 1) && oneC (List.take ((if (6 : Int) < (↑starts.length : Int) then (6 : Int) else (↑starts.length : Int)).toNat * 1) (List.drop 0 (u32s starts))) && ((0 + (if (6 : Int) < (↑starts.length : Int) then (6 : Int) else (↑starts.length : Int)).toNat) * 4).ble 1099511627776 && (0 + (if (6 : Int) < (↑starts.length : Int) then (6 : Int) else (↑starts.length : Int)).toNat).blt 4611686018427387904 then bif hasN (0 + (if (6 : Int) < (↑starts.length : Int) then (6 : Int) else (↑starts.length : Int)).toNat * 1) (u32s starts) then bif decide ((0 : Int) ≤ if (6 : Int) < (↑starts.length : Int) then (6 : Int) else (↑starts.length : Int)) && decide ((if (6 : Int) < (↑starts.length : Int) then (6 : Int) else (↑starts.length : Int)) ≤ (↑starts.length : Int)) then bif decide ((0 : Int) ≤ if (20000 : Int) < (↑(lenT data) : Int) then (20000 : Int) else (↑(lenT data) : Int)) && decide ((if (20000 : Int) < (↑(lenT data) : Int) then (20000 : Int) else (↑(lenT data) : Int)) ≤ (↑(lenT data) : Int)) then True else False else False else False else False : St }) := by kernel_rfl
theorem own_nen (pages : Int) (stack : Int) (types : Int) (data : List UInt8) (cs : List Nat) (rs : List Rl) (starts : List Nat) : evF Try.prog noBase noLoop 100 10 9 [Value.agg { toList := [Value.int IntKind.i64 pages, Value.int IntKind.i64 stack, Value.int IntKind.i64 types, Value.slice none 0 0, Value.string { data := { toList := data : Array UInt8 } : ByteArray }, Value.slice (some { block := 65, off := 0, spot := some 65 }) 0 (big + 65), Value.slice none 0 0] }] { n := 67, h := [], lo := [(64, 0), (65, 0), (66, 0)], esc := 0, T := [], k := 0, O := True : St } = some (Value.agg { toList := [Value.int IntKind.i64 pages, Value.int IntKind.i64 stack, Value.int IntKind.i64 types, Value.slice (some { block := 70, off := 0 }) 0 9223372036854775878, Value.string { data := { toList := List.take ((if (20000 : Int) < (↑(lenT data) : Int) then (20000 : Int) else (↑(lenT data) : Int)).toNat - 0) (List.drop 0 data) : Array UInt8 } : ByteArray }, Value.slice (some { block := 72, off := 0 }) 0 9223372036854775880, Value.slice (some { block := 74, off := 0 }) 0 9223372036854775882] }, { n := 75, h := [(74, { rw := true, op := some (74, 1), cells := [], it := none : Sy.Blk }), (72, { rw := true, op := some (72, 6), cells := [], it := none : Sy.Blk }), (70, { rw := true, op := some (70, 1), cells := [], it := none : Sy.Blk }), (68, { rw := true, op := none, cells := [Value.int IntKind.i64 pages, Value.int IntKind.i64 stack, Value.int IntKind.i64 types, Value.slice (some { block := 70, off := 0 }) 0 9223372036854775878, Value.string { data := { toList := List.take ((if (20000 : Int) < (↑(lenT data) : Int) then (20000 : Int) else (↑(lenT data) : Int)).toNat - 0) (List.drop 0 data) : Array UInt8 } : ByteArray }, Value.slice (some { block := 72, off := 0 }) 0 9223372036854775880, Value.slice (some { block := 74, off := 0 }) 0 9223372036854775882], it := none : Sy.Blk }), (67, { rw := true, op := none, cells := [Value.int IntKind.i64 pages, Value.int IntKind.i64 stack, Value.int IntKind.i64 types, Value.slice (some { block := 70, off := 0 }) 0 9223372036854775878, Value.string { data := { toList := List.take ((if (20000 : Int) < (↑(lenT data) : Int) then (20000 : Int) else (↑(lenT data) : Int)).toNat - 0) (List.drop 0 data) : Array UInt8 } : ByteArray }, Value.slice (some { block := 72, off := 0 }) 0 9223372036854775880, Value.slice (some { block := 74, off := 0 }) 0 9223372036854775882], it := none : Sy.Blk })], lo := [(74, 0), (72, 0), (70, 0), (64, 0), (65, 0), (66, 0)], esc := 0, T := [], k := 0, O := bif decide ((0 : Int) ≤ if (20000 : Int) < (↑(lenT data) : Int) then (20000 : Int) else (↑(lenT data) : Int)) && decide ((if (20000 : Int) < (↑(lenT data) : Int) then (20000 : Int) else (↑(lenT data) : Int)) ≤ (↑(lenT data) : Int)) then True else False : St }) := by kernel_rfl
theorem own_nee (pages : Int) (stack : Int) (types : Int) (data : List UInt8) (cs : List Nat) (rs : List Rl) (starts : List Nat) : evF Try.prog noBase noLoop 100 10 9 [Value.agg { toList := [Value.int IntKind.i64 pages, Value.int IntKind.i64 stack, Value.int IntKind.i64 types, Value.slice none 0 0, Value.string { data := { toList := data : Array UInt8 } : ByteArray }, Value.slice (some { block := 65, off := 0, spot := some 65 }) 0 (big + 65), Value.slice (some { block := 66, off := 0, spot := some 66 }) 0 (big + 66)] }] { n := 67, h := [], lo := [(64, 0), (65, 0), (66, 0)], esc := 0, T := [], k := 0, O := True : St } = some (Value.agg { toList := [Value.int IntKind.i64 pages, Value.int IntKind.i64 stack, Value.int IntKind.i64 types, Value.slice (some { block := 70, off := 0 }) 0 9223372036854775878, Value.string { data := { toList := List.take ((if (20000 : Int) < (↑(lenT data) : Int) then (20000 : Int) else (↑(lenT data) : Int)).toNat - 0) (List.drop 0 data) : Array UInt8 } : ByteArray }, Value.slice (some { block := 72, off := 0 }) 0 9223372036854775880, Value.slice (some { block := 74, off := 0 }) 0 9223372036854775882] }, { n := 75, h := [(74, { rw := true, op := some (74, 1), cells := [], it := none : Sy.Blk }), (72, { rw := true, op := some (72, 6), cells := [], it := none : Sy.Blk }), (70, { rw := true, op := some (70, 1), cells := [], it := none : Sy.Blk }), (68, { rw := true, op := none, cells := [Value.int IntKind.i64 pages, Value.int IntKind.i64 stack, Value.int IntKind.i64 types, Value.slice (some { block := 70, off := 0 }) 0 9223372036854775878, Value.string { data := { toList := List.take ((if (20000 : Int) < (↑(lenT data) : Int) then (20000 : Int) else (↑(lenT data) : Int)).toNat - 0) (List.drop 0 data) : Array UInt8 } : ByteArray }, Value.slice (some { block := 72, off := 0 }) 0 9223372036854775880, Value.slice (some { block := 74, off := 0 }) 0 9223372036854775882], it := none : Sy.Blk }), (67, { rw := true, op := none, cells := [Value.int IntKind.i64 pages, Value.int IntKind.i64 stack, Value.int IntKind.i64 types, Value.slice (some { block := 70, off := 0 }) 0 9223372036854775878, Value.string { data := { toList := List.take ((if (20000 : Int) < (↑(lenT data) : Int) then (20000 : Int) else (↑(lenT data) : Int)).toNat - 0) (List.drop 0 data) : Array UInt8 } : ByteArray }, Value.slice (some { block := 72, off := 0 }) 0 9223372036854775880, Value.slice (some { block := 74, off := 0 }) 0 9223372036854775882], it := none : Sy.Blk })], lo := [(74, 0), (72, 0), (70, 0), (64, 0), (65, 0), (66, 0)], esc := 0, T := [], k := 0, O := bif decide ((0 : Int) ≤ if (20000 : Int) < (↑(lenT data) : Int) then (20000 : Int) else (↑(lenT data) : Int)) && decide ((if (20000 : Int) < (↑(lenT data) : Int) then (20000 : Int) else (↑(lenT data) : Int)) ≤ (↑(lenT data) : Int)) then True else False : St }) := by kernel_rfl
theorem own_nel (pages : Int) (stack : Int) (types : Int) (data : List UInt8) (cs : List Nat) (rs : List Rl) (starts : List Nat) : evF Try.prog noBase noLoop 100 10 9 [Value.agg { toList := [Value.int IntKind.i64 pages, Value.int IntKind.i64 stack, Value.int IntKind.i64 types, Value.slice none 0 0, Value.string { data := { toList := data : Array UInt8 } : ByteArray }, Value.slice (some { block := 65, off := 0, spot := some 65 }) 0 (big + 65), Value.slice (some { block := 66, off := 0 }) starts.length (big + 66)] }] { n := 67, h := [(66, { rw := false, op := some (0, 0), cells := u32s starts, it := none : Sy.Blk })], lo := [(64, 0), (65, 0), (66, starts.length)], esc := 0, T := [], k := 0, O := True : St } = some (Value.agg { toList := [Value.int IntKind.i64 pages, Value.int IntKind.i64 stack, Value.int IntKind.i64 types, Value.slice (some { block := 70, off := 0 }) 0 9223372036854775878, Value.string { data := { toList := List.take ((if (20000 : Int) < (↑(lenT data) : Int) then (20000 : Int) else (↑(lenT data) : Int)).toNat - 0) (List.drop 0 data) : Array UInt8 } : ByteArray }, Value.slice (some { block := 72, off := 0 }) 0 9223372036854775880, Value.slice (some { block := 74, off := 0 }) (0 + (if (6 : Int) < (↑starts.length : Int) then (6 : Int) else (↑starts.length : Int)).toNat) 9223372036854775882] }, { n := 75, h := [(74, { rw := true, op := some (74, 1), cells := List.take ((if (6 : Int) < (↑starts.length : Int) then (6 : Int) else (↑starts.length : Int)).toNat * 1) (List.drop 0 (u32s starts)), it := none : Sy.Blk }), (72, { rw := true, op := some (72, 6), cells := [], it := none : Sy.Blk }), (70, { rw := true, op := some (70, 1), cells := [], it := none : Sy.Blk }), (68, { rw := true, op := none, cells := [Value.int IntKind.i64 pages, Value.int IntKind.i64 stack, Value.int IntKind.i64 types, Value.slice (some { block := 70, off := 0 }) 0 9223372036854775878, Value.string { data := { toList := List.take ((if (20000 : Int) < (↑(lenT data) : Int) then (20000 : Int) else (↑(lenT data) : Int)).toNat - 0) (List.drop 0 data) : Array UInt8 } : ByteArray }, Value.slice (some { block := 72, off := 0 }) 0 9223372036854775880, Value.slice (some { block := 74, off := 0 }) (0 + (if (6 : Int) < (↑starts.length : Int) then (6 : Int) else (↑starts.length : Int)).toNat) 9223372036854775882], it := none : Sy.Blk }), (67, { rw := true, op := none, cells := [Value.int IntKind.i64 pages, Value.int IntKind.i64 stack, Value.int IntKind.i64 types, Value.slice (some { block := 70, off := 0 }) 0 9223372036854775878, Value.string { data := { toList := List.take ((if (20000 : Int) < (↑(lenT data) : Int) then (20000 : Int) else (↑(lenT data) : Int)).toNat - 0) (List.drop 0 data) : Array UInt8 } : ByteArray }, Value.slice (some { block := 72, off := 0 }) 0 9223372036854775880, Value.slice (some { block := 74, off := 0 }) (0 + (if (6 : Int) < (↑starts.length : Int) then (6 : Int) else (↑starts.length : Int)).toNat) 9223372036854775882], it := none : Sy.Blk }), (66, { rw := false, op := some (0, 0), cells := u32s starts, it := none : Sy.Blk })], lo := [(74, 0 + (if (6 : Int) < (↑starts.length : Int) then (6 : Int) else (↑starts.length : Int)).toNat), (72, 0), (70, 0), (64, 0), (65, 0), (66, starts.length)], esc := 0, T := [], k := 0, O := bif (lenT (List.take ((if (6 : Int) < (↑starts.length : Int) then (6 : Int) else (↑starts.length : Int)).toNat * 1) (List.drop 0 (u32s starts)))).beq ((if (6 : Int) < (↑starts.length : Int) then (6 : Int) else (↑starts.length : Int)).toNat * 1) && oneC (List.take ((if (6 : Int) < (↑starts.length : Int) then (6 : Int) else (↑starts.length : Int)).toNat * 1) (List.drop 0 (u32s starts))) && ((0 + (if (6 : Int) < (↑starts.length : Int) then (6 : Int) else (↑starts.length : Int)).toNat) * 4).ble 1099511627776 && (0 + (if (6 : Int) < (↑starts.length : Int) then (6 : Int) else (↑starts.length : Int)).toNat).blt 4611686018427387904 then bif hasN (0 + (if (6 : Int) < (↑starts.length : Int) then (6 : Int) else (↑starts.length : Int)).toNat * 1) (u32s starts) then bif decide ((0 : Int) ≤ if (6 : Int) < (↑starts.length : Int) then (6 : Int) else (↑starts.length : Int)) && decide ((if (6 : Int) < (↑starts.length : Int) then (6 : Int) else (↑starts.length : Int)) ≤ (↑starts.length : Int)) then bif decide ((0 : Int) ≤ if (20000 : Int) < (↑(lenT data) : Int) then (20000 : Int) else (↑(lenT data) : Int)) && decide ((if (20000 : Int) < (↑(lenT data) : Int) then (20000 : Int) else (↑(lenT data) : Int)) ≤ (↑(lenT data) : Int)) then True else False else False else False else False : St }) := by kernel_rfl
theorem own_nln (pages : Int) (stack : Int) (types : Int) (data : List UInt8) (cs : List Nat) (rs : List Rl) (starts : List Nat) : evF Try.prog noBase noLoop 100 10 9 [Value.agg { toList := [Value.int IntKind.i64 pages, Value.int IntKind.i64 stack, Value.int IntKind.i64 types, Value.slice none 0 0, Value.string { data := { toList := data : Array UInt8 } : ByteArray }, Value.slice (some { block := 65, off := 0 }) rs.length (big + 65), Value.slice none 0 0] }] { n := 67, h := [(65, { rw := false, op := some (0, 0), cells := rels rs, it := none : Sy.Blk })], lo := [(64, 0), (65, rs.length), (66, 0)], esc := 0, T := [], k := 0, O := True : St } = some (Value.agg { toList := [Value.int IntKind.i64 pages, Value.int IntKind.i64 stack, Value.int IntKind.i64 types, Value.slice (some { block := 70, off := 0 }) 0 9223372036854775878, Value.string { data := { toList := List.take ((if (20000 : Int) < (↑(lenT data) : Int) then (20000 : Int) else (↑(lenT data) : Int)).toNat - 0) (List.drop 0 data) : Array UInt8 } : ByteArray }, Value.slice (some { block := 72, off := 0 }) (0 + (if (300 : Int) < (↑rs.length : Int) then (300 : Int) else (↑rs.length : Int)).toNat) 9223372036854775880, Value.slice (some { block := 74, off := 0 }) 0 9223372036854775882] }, { n := 75, h := [(74, { rw := true, op := some (74, 1), cells := [], it := none : Sy.Blk }), (72, { rw := true, op := some (72, 6), cells := List.take ((if (300 : Int) < (↑rs.length : Int) then (300 : Int) else (↑rs.length : Int)).toNat * 6) (List.drop 0 (rels rs)), it := none : Sy.Blk }), (70, { rw := true, op := some (70, 1), cells := [], it := none : Sy.Blk }), (68, { rw := true, op := none, cells := [Value.int IntKind.i64 pages, Value.int IntKind.i64 stack, Value.int IntKind.i64 types, Value.slice (some { block := 70, off := 0 }) 0 9223372036854775878, Value.string { data := { toList := List.take ((if (20000 : Int) < (↑(lenT data) : Int) then (20000 : Int) else (↑(lenT data) : Int)).toNat - 0) (List.drop 0 data) : Array UInt8 } : ByteArray }, Value.slice (some { block := 72, off := 0 }) (0 + (if (300 : Int) < (↑rs.length : Int) then (300 : Int) else (↑rs.length : Int)).toNat) 9223372036854775880, Value.slice (some { block := 74, off := 0 }) 0 9223372036854775882], it := none : Sy.Blk }), (67, { rw := true, op := none, cells := [Value.int IntKind.i64 pages, Value.int IntKind.i64 stack, Value.int IntKind.i64 types, Value.slice (some { block := 70, off := 0 }) 0 9223372036854775878, Value.string { data := { toList := List.take ((if (20000 : Int) < (↑(lenT data) : Int) then (20000 : Int) else (↑(lenT data) : Int)).toNat - 0) (List.drop 0 data) : Array UInt8 } : ByteArray }, Value.slice (some { block := 72, off := 0 }) (0 + (if (300 : Int) < (↑rs.length : Int) then (300 : Int) else (↑rs.length : Int)).toNat) 9223372036854775880, Value.slice (some { block := 74, off := 0 }) 0 9223372036854775882], it := none : Sy.Blk }), (65, { rw := false, op := some (0, 0), cells := rels rs, it := none : Sy.Blk })], lo := [(74, 0), (72, 0 + (if (300 : Int) < (↑rs.length : Int) then (300 : Int) else (↑rs.length : Int)).toNat), (70, 0), (64, 0), (65, rs.length), (66, 0)], esc := 0, T := [], k := 0, O := bif (lenT (List.take ((if (300 : Int) < (↑rs.length : Int) then (300 : Int) else (↑rs.length : Int)).toNat * 6) (List.drop 0 (rels rs)))).beq ((if (300 : Int) < (↑rs.length : Int) then (300 : Int) else (↑rs.length : Int)).toNat * 6) && oneC (List.take ((if (300 : Int) < (↑rs.length : Int) then (300 : Int) else (↑rs.length : Int)).toNat * 6) (List.drop 0 (rels rs))) && ((0 + (if (300 : Int) < (↑rs.length : Int) then (300 : Int) else (↑rs.length : Int)).toNat) * 20).ble 1099511627776 && (0 + (if (300 : Int) < (↑rs.length : Int) then (300 : Int) else (↑rs.length : Int)).toNat).blt 4611686018427387904 then bif hasN (0 + (if (300 : Int) < (↑rs.length : Int) then (300 : Int) else (↑rs.length : Int)).toNat * 6) (rels rs) then bif decide ((0 : Int) ≤ if (300 : Int) < (↑rs.length : Int) then (300 : Int) else (↑rs.length : Int)) && decide ((if (300 : Int) < (↑rs.length : Int) then (300 : Int) else (↑rs.length : Int)) ≤ (↑rs.length : Int)) then bif decide ((0 : Int) ≤ if (20000 : Int) < (↑(lenT data) : Int) then (20000 : Int) else (↑(lenT data) : Int)) && decide ((if (20000 : Int) < (↑(lenT data) : Int) then (20000 : Int) else (↑(lenT data) : Int)) ≤ (↑(lenT data) : Int)) then True else False else False else False else False : St }) := by kernel_rfl
theorem own_nle (pages : Int) (stack : Int) (types : Int) (data : List UInt8) (cs : List Nat) (rs : List Rl) (starts : List Nat) : evF Try.prog noBase noLoop 100 10 9 [Value.agg { toList := [Value.int IntKind.i64 pages, Value.int IntKind.i64 stack, Value.int IntKind.i64 types, Value.slice none 0 0, Value.string { data := { toList := data : Array UInt8 } : ByteArray }, Value.slice (some { block := 65, off := 0 }) rs.length (big + 65), Value.slice (some { block := 66, off := 0, spot := some 66 }) 0 (big + 66)] }] { n := 67, h := [(65, { rw := false, op := some (0, 0), cells := rels rs, it := none : Sy.Blk })], lo := [(64, 0), (65, rs.length), (66, 0)], esc := 0, T := [], k := 0, O := True : St } = some (Value.agg { toList := [Value.int IntKind.i64 pages, Value.int IntKind.i64 stack, Value.int IntKind.i64 types, Value.slice (some { block := 70, off := 0 }) 0 9223372036854775878, Value.string { data := { toList := List.take ((if (20000 : Int) < (↑(lenT data) : Int) then (20000 : Int) else (↑(lenT data) : Int)).toNat - 0) (List.drop 0 data) : Array UInt8 } : ByteArray }, Value.slice (some { block := 72, off := 0 }) (0 + (if (300 : Int) < (↑rs.length : Int) then (300 : Int) else (↑rs.length : Int)).toNat) 9223372036854775880, Value.slice (some { block := 74, off := 0 }) 0 9223372036854775882] }, { n := 75, h := [(74, { rw := true, op := some (74, 1), cells := [], it := none : Sy.Blk }), (72, { rw := true, op := some (72, 6), cells := List.take ((if (300 : Int) < (↑rs.length : Int) then (300 : Int) else (↑rs.length : Int)).toNat * 6) (List.drop 0 (rels rs)), it := none : Sy.Blk }), (70, { rw := true, op := some (70, 1), cells := [], it := none : Sy.Blk }), (68, { rw := true, op := none, cells := [Value.int IntKind.i64 pages, Value.int IntKind.i64 stack, Value.int IntKind.i64 types, Value.slice (some { block := 70, off := 0 }) 0 9223372036854775878, Value.string { data := { toList := List.take ((if (20000 : Int) < (↑(lenT data) : Int) then (20000 : Int) else (↑(lenT data) : Int)).toNat - 0) (List.drop 0 data) : Array UInt8 } : ByteArray }, Value.slice (some { block := 72, off := 0 }) (0 + (if (300 : Int) < (↑rs.length : Int) then (300 : Int) else (↑rs.length : Int)).toNat) 9223372036854775880, Value.slice (some { block := 74, off := 0 }) 0 9223372036854775882], it := none : Sy.Blk }), (67, { rw := true, op := none, cells := [Value.int IntKind.i64 pages, Value.int IntKind.i64 stack, Value.int IntKind.i64 types, Value.slice (some { block := 70, off := 0 }) 0 9223372036854775878, Value.string { data := { toList := List.take ((if (20000 : Int) < (↑(lenT data) : Int) then (20000 : Int) else (↑(lenT data) : Int)).toNat - 0) (List.drop 0 data) : Array UInt8 } : ByteArray }, Value.slice (some { block := 72, off := 0 }) (0 + (if (300 : Int) < (↑rs.length : Int) then (300 : Int) else (↑rs.length : Int)).toNat) 9223372036854775880, Value.slice (some { block := 74, off := 0 }) 0 9223372036854775882], it := none : Sy.Blk }), (65, { rw := false, op := some (0, 0), cells := rels rs, it := none : Sy.Blk })], lo := [(74, 0), (72, 0 + (if (300 : Int) < (↑rs.length : Int) then (300 : Int) else (↑rs.length : Int)).toNat), (70, 0), (64, 0), (65, rs.length), (66, 0)], esc := 0, T := [], k := 0, O := bif (lenT (List.take ((if (300 : Int) < (↑rs.length : Int) then (300 : Int) else (↑rs.length : Int)).toNat * 6) (List.drop 0 (rels rs)))).beq ((if (300 : Int) < (↑rs.length : Int) then (300 : Int) else (↑rs.length : Int)).toNat * 6) && oneC (List.take ((if (300 : Int) < (↑rs.length : Int) then (300 : Int) else (↑rs.length : Int)).toNat * 6) (List.drop 0 (rels rs))) && ((0 + (if (300 : Int) < (↑rs.length : Int) then (300 : Int) else (↑rs.length : Int)).toNat) * 20).ble 1099511627776 && (0 + (if (300 : Int) < (↑rs.length : Int) then (300 : Int) else (↑rs.length : Int)).toNat).blt 4611686018427387904 then bif hasN (0 + (if (300 : Int) < (↑rs.length : Int) then (300 : Int) else (↑rs.length : Int)).toNat * 6) (rels rs) then bif decide ((0 : Int) ≤ if (300 : Int) < (↑rs.length : Int) then (300 : Int) else (↑rs.length : Int)) && decide ((if (300 : Int) < (↑rs.length : Int) then (300 : Int) else (↑rs.length : Int)) ≤ (↑rs.length : Int)) then bif decide ((0 : Int) ≤ if (20000 : Int) < (↑(lenT data) : Int) then (20000 : Int) else (↑(lenT data) : Int)) && decide ((if (20000 : Int) < (↑(lenT data) : Int) then (20000 : Int) else (↑(lenT data) : Int)) ≤ (↑(lenT data) : Int)) then True else False else False else False else False : St }) := by kernel_rfl
theorem own_nll (pages : Int) (stack : Int) (types : Int) (data : List UInt8) (cs : List Nat) (rs : List Rl) (starts : List Nat) : evF Try.prog noBase noLoop 100 10 9 [Value.agg { toList := [Value.int IntKind.i64 pages, Value.int IntKind.i64 stack, Value.int IntKind.i64 types, Value.slice none 0 0, Value.string { data := { toList := data : Array UInt8 } : ByteArray }, Value.slice (some { block := 65, off := 0 }) rs.length (big + 65), Value.slice (some { block := 66, off := 0 }) starts.length (big + 66)] }] { n := 67, h := [(65, { rw := false, op := some (0, 0), cells := rels rs, it := none : Sy.Blk }), (66, { rw := false, op := some (0, 0), cells := u32s starts, it := none : Sy.Blk })], lo := [(64, 0), (65, rs.length), (66, starts.length)], esc := 0, T := [], k := 0, O := True : St } = some (Value.agg { toList := [Value.int IntKind.i64 pages, Value.int IntKind.i64 stack, Value.int IntKind.i64 types, Value.slice (some { block := 70, off := 0 }) 0 9223372036854775878, Value.string { data := { toList := List.take ((if (20000 : Int) < (↑(lenT data) : Int) then (20000 : Int) else (↑(lenT data) : Int)).toNat - 0) (List.drop 0 data) : Array UInt8 } : ByteArray }, Value.slice (some { block := 72, off := 0 }) (0 + (if (300 : Int) < (↑rs.length : Int) then (300 : Int) else (↑rs.length : Int)).toNat) 9223372036854775880, Value.slice (some { block := 74, off := 0 }) (0 + (if (6 : Int) < (↑starts.length : Int) then (6 : Int) else (↑starts.length : Int)).toNat) 9223372036854775882] }, { n := 75, h := [(74, { rw := true, op := some (74, 1), cells := List.take ((if (6 : Int) < (↑starts.length : Int) then (6 : Int) else (↑starts.length : Int)).toNat * 1) (List.drop 0 (u32s starts)), it := none : Sy.Blk }), (72, { rw := true, op := some (72, 6), cells := List.take ((if (300 : Int) < (↑rs.length : Int) then (300 : Int) else (↑rs.length : Int)).toNat * 6) (List.drop 0 (rels rs)), it := none : Sy.Blk }), (70, { rw := true, op := some (70, 1), cells := [], it := none : Sy.Blk }), (68, { rw := true, op := none, cells := [Value.int IntKind.i64 pages, Value.int IntKind.i64 stack, Value.int IntKind.i64 types, Value.slice (some { block := 70, off := 0 }) 0 9223372036854775878, Value.string { data := { toList := List.take ((if (20000 : Int) < (↑(lenT data) : Int) then (20000 : Int) else (↑(lenT data) : Int)).toNat - 0) (List.drop 0 data) : Array UInt8 } : ByteArray }, Value.slice (some { block := 72, off := 0 }) (0 + (if (300 : Int) < (↑rs.length : Int) then (300 : Int) else (↑rs.length : Int)).toNat) 9223372036854775880, Value.slice (some { block := 74, off := 0 }) (0 + (if (6 : Int) < (↑starts.length : Int) then (6 : Int) else (↑starts.length : Int)).toNat) 9223372036854775882], it := none : Sy.Blk }), (67, { rw := true, op := none, cells := [Value.int IntKind.i64 pages, Value.int IntKind.i64 stack, Value.int IntKind.i64 types, Value.slice (some { block := 70, off := 0 }) 0 9223372036854775878, Value.string { data := { toList := List.take ((if (20000 : Int) < (↑(lenT data) : Int) then (20000 : Int) else (↑(lenT data) : Int)).toNat - 0) (List.drop 0 data) : Array UInt8 } : ByteArray }, Value.slice (some { block := 72, off := 0 }) (0 + (if (300 : Int) < (↑rs.length : Int) then (300 : Int) else (↑rs.length : Int)).toNat) 9223372036854775880, Value.slice (some { block := 74, off := 0 }) (0 + (if (6 : Int) < (↑starts.length : Int) then (6 : Int) else (↑starts.length : Int)).toNat) 9223372036854775882], it := none : Sy.Blk }), (65, { rw := false, op := some (0, 0), cells := rels rs, it := none : Sy.Blk }), (66, { rw := false, op := some (0, 0), cells := u32s starts, it := none : Sy.Blk })], lo := [(74, 0 + (if (6 : Int) < (↑starts.length : Int) then (6 : Int) else (↑starts.length : Int)).toNat), (72, 0 + (if (300 : Int) < (↑rs.length : Int) then (300 : Int) else (↑rs.length : Int)).toNat), (70, 0), (64, 0), (65, rs.length), (66, starts.length)], esc := 0, T := [], k := 0, O := bif (lenT (List.take ((if (6 : Int) < (↑starts.length : Int) then (6 : Int) else (↑starts.length : Int)).toNat * 1) (List.drop 0 (u32s starts)))).beq ((if (6 : Int) < (↑starts.length : Int) then (6 : Int) else (↑starts.length : Int)).toNat * 1) && oneC (List.take ((if (6 : Int) < (↑starts.length : Int) then (6 : Int) else (↑starts.length : Int)).toNat * 1) (List.drop 0 (u32s starts))) && ((0 + (if (6 : Int) < (↑starts.length : Int) then (6 : Int) else (↑starts.length : Int)).toNat) * 4).ble 1099511627776 && (0 + (if (6 : Int) < (↑starts.length : Int) then (6 : Int) else (↑starts.length : Int)).toNat).blt 4611686018427387904 then bif hasN (0 + (if (6 : Int) < (↑starts.length : Int) then (6 : Int) else (↑starts.length : Int)).toNat * 1) (u32s starts) then bif decide ((0 : Int) ≤ if (6 : Int) < (↑starts.length : Int) then (6 : Int) else (↑starts.length : Int)) && decide ((if (6 : Int) < (↑starts.length : Int) then (6 : Int) else (↑starts.length : Int)) ≤ (↑starts.length : Int)) then bif (lenT (List.take ((if (300 : Int) < (↑rs.length : Int) then (300 : Int) else (↑rs.length : Int)).toNat * 6) (List.drop 0 (rels rs)))).beq ((if (300 : Int) < (↑rs.length : Int) then (300 : Int) else (↑rs.length : Int)).toNat * 6) && oneC (List.take ((if (300 : Int) < (↑rs.length : Int) then (300 : Int) else (↑rs.length : Int)).toNat * 6) (List.drop 0 (rels rs))) && ((0 + (if (300 : Int) < (↑rs.length : Int) then (300 : Int) else (↑rs.length : Int)).toNat) * 20).ble 1099511627776 && (0 + (if (300 : Int) < (↑rs.length : Int) then (300 : Int) else (↑rs.length : Int)).toNat).blt 4611686018427387904 then bif hasN (0 + (if (300 : Int) < (↑rs.length : Int) then (300 : Int) else (↑rs.length : Int)).toNat * 6) (rels rs) then bif decide ((0 : Int) ≤ if (300 : Int) < (↑rs.length : Int) then (300 : Int) else (↑rs.length : Int)) && decide ((if (300 : Int) < (↑rs.length : Int) then (300 : Int) else (↑rs.length : Int)) ≤ (↑rs.length : Int)) then bif decide ((0 : Int) ≤ if (20000 : Int) < (↑(lenT data) : Int) then (20000 : Int) else (↑(lenT data) : Int)) && decide ((if (20000 : Int) < (↑(lenT data) : Int) then (20000 : Int) else (↑(lenT data) : Int)) ≤ (↑(lenT data) : Int)) then True else False else False else False else False else False else False else False : St }) := by kernel_rfl
theorem own_enn (pages : Int) (stack : Int) (types : Int) (data : List UInt8) (cs : List Nat) (rs : List Rl) (starts : List Nat) : evF Try.prog noBase noLoop 100 10 9 [Value.agg { toList := [Value.int IntKind.i64 pages, Value.int IntKind.i64 stack, Value.int IntKind.i64 types, Value.slice (some { block := 64, off := 0, spot := some 64 }) 0 (big + 64), Value.string { data := { toList := data : Array UInt8 } : ByteArray }, Value.slice none 0 0, Value.slice none 0 0] }] { n := 67, h := [], lo := [(64, 0), (65, 0), (66, 0)], esc := 0, T := [], k := 0, O := True : St } = some (Value.agg { toList := [Value.int IntKind.i64 pages, Value.int IntKind.i64 stack, Value.int IntKind.i64 types, Value.slice (some { block := 70, off := 0 }) 0 9223372036854775878, Value.string { data := { toList := List.take ((if (20000 : Int) < (↑(lenT data) : Int) then (20000 : Int) else (↑(lenT data) : Int)).toNat - 0) (List.drop 0 data) : Array UInt8 } : ByteArray }, Value.slice (some { block := 72, off := 0 }) 0 9223372036854775880, Value.slice (some { block := 74, off := 0 }) 0 9223372036854775882] }, { n := 75, h := [(74, { rw := true, op := some (74, 1), cells := [], it := none : Sy.Blk }), (72, { rw := true, op := some (72, 6), cells := [], it := none : Sy.Blk }), (70, { rw := true, op := some (70, 1), cells := [], it := none : Sy.Blk }), (68, { rw := true, op := none, cells := [Value.int IntKind.i64 pages, Value.int IntKind.i64 stack, Value.int IntKind.i64 types, Value.slice (some { block := 70, off := 0 }) 0 9223372036854775878, Value.string { data := { toList := List.take ((if (20000 : Int) < (↑(lenT data) : Int) then (20000 : Int) else (↑(lenT data) : Int)).toNat - 0) (List.drop 0 data) : Array UInt8 } : ByteArray }, Value.slice (some { block := 72, off := 0 }) 0 9223372036854775880, Value.slice (some { block := 74, off := 0 }) 0 9223372036854775882], it := none : Sy.Blk }), (67, { rw := true, op := none, cells := [Value.int IntKind.i64 pages, Value.int IntKind.i64 stack, Value.int IntKind.i64 types, Value.slice (some { block := 70, off := 0 }) 0 9223372036854775878, Value.string { data := { toList := List.take ((if (20000 : Int) < (↑(lenT data) : Int) then (20000 : Int) else (↑(lenT data) : Int)).toNat - 0) (List.drop 0 data) : Array UInt8 } : ByteArray }, Value.slice (some { block := 72, off := 0 }) 0 9223372036854775880, Value.slice (some { block := 74, off := 0 }) 0 9223372036854775882], it := none : Sy.Blk })], lo := [(74, 0), (72, 0), (70, 0), (64, 0), (65, 0), (66, 0)], esc := 0, T := [], k := 0, O := bif decide ((0 : Int) ≤ if (20000 : Int) < (↑(lenT data) : Int) then (20000 : Int) else (↑(lenT data) : Int)) && decide ((if (20000 : Int) < (↑(lenT data) : Int) then (20000 : Int) else (↑(lenT data) : Int)) ≤ (↑(lenT data) : Int)) then True else False : St }) := by kernel_rfl
theorem own_ene (pages : Int) (stack : Int) (types : Int) (data : List UInt8) (cs : List Nat) (rs : List Rl) (starts : List Nat) : evF Try.prog noBase noLoop 100 10 9 [Value.agg { toList := [Value.int IntKind.i64 pages, Value.int IntKind.i64 stack, Value.int IntKind.i64 types, Value.slice (some { block := 64, off := 0, spot := some 64 }) 0 (big + 64), Value.string { data := { toList := data : Array UInt8 } : ByteArray }, Value.slice none 0 0, Value.slice (some { block := 66, off := 0, spot := some 66 }) 0 (big + 66)] }] { n := 67, h := [], lo := [(64, 0), (65, 0), (66, 0)], esc := 0, T := [], k := 0, O := True : St } = some (Value.agg { toList := [Value.int IntKind.i64 pages, Value.int IntKind.i64 stack, Value.int IntKind.i64 types, Value.slice (some { block := 70, off := 0 }) 0 9223372036854775878, Value.string { data := { toList := List.take ((if (20000 : Int) < (↑(lenT data) : Int) then (20000 : Int) else (↑(lenT data) : Int)).toNat - 0) (List.drop 0 data) : Array UInt8 } : ByteArray }, Value.slice (some { block := 72, off := 0 }) 0 9223372036854775880, Value.slice (some { block := 74, off := 0 }) 0 9223372036854775882] }, { n := 75, h := [(74, { rw := true, op := some (74, 1), cells := [], it := none : Sy.Blk }), (72, { rw := true, op := some (72, 6), cells := [], it := none : Sy.Blk }), (70, { rw := true, op := some (70, 1), cells := [], it := none : Sy.Blk }), (68, { rw := true, op := none, cells := [Value.int IntKind.i64 pages, Value.int IntKind.i64 stack, Value.int IntKind.i64 types, Value.slice (some { block := 70, off := 0 }) 0 9223372036854775878, Value.string { data := { toList := List.take ((if (20000 : Int) < (↑(lenT data) : Int) then (20000 : Int) else (↑(lenT data) : Int)).toNat - 0) (List.drop 0 data) : Array UInt8 } : ByteArray }, Value.slice (some { block := 72, off := 0 }) 0 9223372036854775880, Value.slice (some { block := 74, off := 0 }) 0 9223372036854775882], it := none : Sy.Blk }), (67, { rw := true, op := none, cells := [Value.int IntKind.i64 pages, Value.int IntKind.i64 stack, Value.int IntKind.i64 types, Value.slice (some { block := 70, off := 0 }) 0 9223372036854775878, Value.string { data := { toList := List.take ((if (20000 : Int) < (↑(lenT data) : Int) then (20000 : Int) else (↑(lenT data) : Int)).toNat - 0) (List.drop 0 data) : Array UInt8 } : ByteArray }, Value.slice (some { block := 72, off := 0 }) 0 9223372036854775880, Value.slice (some { block := 74, off := 0 }) 0 9223372036854775882], it := none : Sy.Blk })], lo := [(74, 0), (72, 0), (70, 0), (64, 0), (65, 0), (66, 0)], esc := 0, T := [], k := 0, O := bif decide ((0 : Int) ≤ if (20000 : Int) < (↑(lenT data) : Int) then (20000 : Int) else (↑(lenT data) : Int)) && decide ((if (20000 : Int) < (↑(lenT data) : Int) then (20000 : Int) else (↑(lenT data) : Int)) ≤ (↑(lenT data) : Int)) then True else False : St }) := by kernel_rfl
theorem own_enl (pages : Int) (stack : Int) (types : Int) (data : List UInt8) (cs : List Nat) (rs : List Rl) (starts : List Nat) : evF Try.prog noBase noLoop 100 10 9 [Value.agg { toList := [Value.int IntKind.i64 pages, Value.int IntKind.i64 stack, Value.int IntKind.i64 types, Value.slice (some { block := 64, off := 0, spot := some 64 }) 0 (big + 64), Value.string { data := { toList := data : Array UInt8 } : ByteArray }, Value.slice none 0 0, Value.slice (some { block := 66, off := 0 }) starts.length (big + 66)] }] { n := 67, h := [(66, { rw := false, op := some (0, 0), cells := u32s starts, it := none : Sy.Blk })], lo := [(64, 0), (65, 0), (66, starts.length)], esc := 0, T := [], k := 0, O := True : St } = some (Value.agg { toList := [Value.int IntKind.i64 pages, Value.int IntKind.i64 stack, Value.int IntKind.i64 types, Value.slice (some { block := 70, off := 0 }) 0 9223372036854775878, Value.string { data := { toList := List.take ((if (20000 : Int) < (↑(lenT data) : Int) then (20000 : Int) else (↑(lenT data) : Int)).toNat - 0) (List.drop 0 data) : Array UInt8 } : ByteArray }, Value.slice (some { block := 72, off := 0 }) 0 9223372036854775880, Value.slice (some { block := 74, off := 0 }) (0 + (if (6 : Int) < (↑starts.length : Int) then (6 : Int) else (↑starts.length : Int)).toNat) 9223372036854775882] }, { n := 75, h := [(74, { rw := true, op := some (74, 1), cells := List.take ((if (6 : Int) < (↑starts.length : Int) then (6 : Int) else (↑starts.length : Int)).toNat * 1) (List.drop 0 (u32s starts)), it := none : Sy.Blk }), (72, { rw := true, op := some (72, 6), cells := [], it := none : Sy.Blk }), (70, { rw := true, op := some (70, 1), cells := [], it := none : Sy.Blk }), (68, { rw := true, op := none, cells := [Value.int IntKind.i64 pages, Value.int IntKind.i64 stack, Value.int IntKind.i64 types, Value.slice (some { block := 70, off := 0 }) 0 9223372036854775878, Value.string { data := { toList := List.take ((if (20000 : Int) < (↑(lenT data) : Int) then (20000 : Int) else (↑(lenT data) : Int)).toNat - 0) (List.drop 0 data) : Array UInt8 } : ByteArray }, Value.slice (some { block := 72, off := 0 }) 0 9223372036854775880, Value.slice (some { block := 74, off := 0 }) (0 + (if (6 : Int) < (↑starts.length : Int) then (6 : Int) else (↑starts.length : Int)).toNat) 9223372036854775882], it := none : Sy.Blk }), (67, { rw := true, op := none, cells := [Value.int IntKind.i64 pages, Value.int IntKind.i64 stack, Value.int IntKind.i64 types, Value.slice (some { block := 70, off := 0 }) 0 9223372036854775878, Value.string { data := { toList := List.take ((if (20000 : Int) < (↑(lenT data) : Int) then (20000 : Int) else (↑(lenT data) : Int)).toNat - 0) (List.drop 0 data) : Array UInt8 } : ByteArray }, Value.slice (some { block := 72, off := 0 }) 0 9223372036854775880, Value.slice (some { block := 74, off := 0 }) (0 + (if (6 : Int) < (↑starts.length : Int) then (6 : Int) else (↑starts.length : Int)).toNat) 9223372036854775882], it := none : Sy.Blk }), (66, { rw := false, op := some (0, 0), cells := u32s starts, it := none : Sy.Blk })], lo := [(74, 0 + (if (6 : Int) < (↑starts.length : Int) then (6 : Int) else (↑starts.length : Int)).toNat), (72, 0), (70, 0), (64, 0), (65, 0), (66, starts.length)], esc := 0, T := [], k := 0, O := bif (lenT (List.take ((if (6 : Int) < (↑starts.length : Int) then (6 : Int) else (↑starts.length : Int)).toNat * 1) (List.drop 0 (u32s starts)))).beq ((if (6 : Int) < (↑starts.length : Int) then (6 : Int) else (↑starts.length : Int)).toNat * 1) && oneC (List.take ((if (6 : Int) < (↑starts.length : Int) then (6 : Int) else (↑starts.length : Int)).toNat * 1) (List.drop 0 (u32s starts))) && ((0 + (if (6 : Int) < (↑starts.length : Int) then (6 : Int) else (↑starts.length : Int)).toNat) * 4).ble 1099511627776 && (0 + (if (6 : Int) < (↑starts.length : Int) then (6 : Int) else (↑starts.length : Int)).toNat).blt 4611686018427387904 then bif hasN (0 + (if (6 : Int) < (↑starts.length : Int) then (6 : Int) else (↑starts.length : Int)).toNat * 1) (u32s starts) then bif decide ((0 : Int) ≤ if (6 : Int) < (↑starts.length : Int) then (6 : Int) else (↑starts.length : Int)) && decide ((if (6 : Int) < (↑starts.length : Int) then (6 : Int) else (↑starts.length : Int)) ≤ (↑starts.length : Int)) then bif decide ((0 : Int) ≤ if (20000 : Int) < (↑(lenT data) : Int) then (20000 : Int) else (↑(lenT data) : Int)) && decide ((if (20000 : Int) < (↑(lenT data) : Int) then (20000 : Int) else (↑(lenT data) : Int)) ≤ (↑(lenT data) : Int)) then True else False else False else False else False : St }) := by kernel_rfl
theorem own_een (pages : Int) (stack : Int) (types : Int) (data : List UInt8) (cs : List Nat) (rs : List Rl) (starts : List Nat) : evF Try.prog noBase noLoop 100 10 9 [Value.agg { toList := [Value.int IntKind.i64 pages, Value.int IntKind.i64 stack, Value.int IntKind.i64 types, Value.slice (some { block := 64, off := 0, spot := some 64 }) 0 (big + 64), Value.string { data := { toList := data : Array UInt8 } : ByteArray }, Value.slice (some { block := 65, off := 0, spot := some 65 }) 0 (big + 65), Value.slice none 0 0] }] { n := 67, h := [], lo := [(64, 0), (65, 0), (66, 0)], esc := 0, T := [], k := 0, O := True : St } = some (Value.agg { toList := [Value.int IntKind.i64 pages, Value.int IntKind.i64 stack, Value.int IntKind.i64 types, Value.slice (some { block := 70, off := 0 }) 0 9223372036854775878, Value.string { data := { toList := List.take ((if (20000 : Int) < (↑(lenT data) : Int) then (20000 : Int) else (↑(lenT data) : Int)).toNat - 0) (List.drop 0 data) : Array UInt8 } : ByteArray }, Value.slice (some { block := 72, off := 0 }) 0 9223372036854775880, Value.slice (some { block := 74, off := 0 }) 0 9223372036854775882] }, { n := 75, h := [(74, { rw := true, op := some (74, 1), cells := [], it := none : Sy.Blk }), (72, { rw := true, op := some (72, 6), cells := [], it := none : Sy.Blk }), (70, { rw := true, op := some (70, 1), cells := [], it := none : Sy.Blk }), (68, { rw := true, op := none, cells := [Value.int IntKind.i64 pages, Value.int IntKind.i64 stack, Value.int IntKind.i64 types, Value.slice (some { block := 70, off := 0 }) 0 9223372036854775878, Value.string { data := { toList := List.take ((if (20000 : Int) < (↑(lenT data) : Int) then (20000 : Int) else (↑(lenT data) : Int)).toNat - 0) (List.drop 0 data) : Array UInt8 } : ByteArray }, Value.slice (some { block := 72, off := 0 }) 0 9223372036854775880, Value.slice (some { block := 74, off := 0 }) 0 9223372036854775882], it := none : Sy.Blk }), (67, { rw := true, op := none, cells := [Value.int IntKind.i64 pages, Value.int IntKind.i64 stack, Value.int IntKind.i64 types, Value.slice (some { block := 70, off := 0 }) 0 9223372036854775878, Value.string { data := { toList := List.take ((if (20000 : Int) < (↑(lenT data) : Int) then (20000 : Int) else (↑(lenT data) : Int)).toNat - 0) (List.drop 0 data) : Array UInt8 } : ByteArray }, Value.slice (some { block := 72, off := 0 }) 0 9223372036854775880, Value.slice (some { block := 74, off := 0 }) 0 9223372036854775882], it := none : Sy.Blk })], lo := [(74, 0), (72, 0), (70, 0), (64, 0), (65, 0), (66, 0)], esc := 0, T := [], k := 0, O := bif decide ((0 : Int) ≤ if (20000 : Int) < (↑(lenT data) : Int) then (20000 : Int) else (↑(lenT data) : Int)) && decide ((if (20000 : Int) < (↑(lenT data) : Int) then (20000 : Int) else (↑(lenT data) : Int)) ≤ (↑(lenT data) : Int)) then True else False : St }) := by kernel_rfl
theorem own_eee (pages : Int) (stack : Int) (types : Int) (data : List UInt8) (cs : List Nat) (rs : List Rl) (starts : List Nat) : evF Try.prog noBase noLoop 100 10 9 [Value.agg { toList := [Value.int IntKind.i64 pages, Value.int IntKind.i64 stack, Value.int IntKind.i64 types, Value.slice (some { block := 64, off := 0, spot := some 64 }) 0 (big + 64), Value.string { data := { toList := data : Array UInt8 } : ByteArray }, Value.slice (some { block := 65, off := 0, spot := some 65 }) 0 (big + 65), Value.slice (some { block := 66, off := 0, spot := some 66 }) 0 (big + 66)] }] { n := 67, h := [], lo := [(64, 0), (65, 0), (66, 0)], esc := 0, T := [], k := 0, O := True : St } = some (Value.agg { toList := [Value.int IntKind.i64 pages, Value.int IntKind.i64 stack, Value.int IntKind.i64 types, Value.slice (some { block := 70, off := 0 }) 0 9223372036854775878, Value.string { data := { toList := List.take ((if (20000 : Int) < (↑(lenT data) : Int) then (20000 : Int) else (↑(lenT data) : Int)).toNat - 0) (List.drop 0 data) : Array UInt8 } : ByteArray }, Value.slice (some { block := 72, off := 0 }) 0 9223372036854775880, Value.slice (some { block := 74, off := 0 }) 0 9223372036854775882] }, { n := 75, h := [(74, { rw := true, op := some (74, 1), cells := [], it := none : Sy.Blk }), (72, { rw := true, op := some (72, 6), cells := [], it := none : Sy.Blk }), (70, { rw := true, op := some (70, 1), cells := [], it := none : Sy.Blk }), (68, { rw := true, op := none, cells := [Value.int IntKind.i64 pages, Value.int IntKind.i64 stack, Value.int IntKind.i64 types, Value.slice (some { block := 70, off := 0 }) 0 9223372036854775878, Value.string { data := { toList := List.take ((if (20000 : Int) < (↑(lenT data) : Int) then (20000 : Int) else (↑(lenT data) : Int)).toNat - 0) (List.drop 0 data) : Array UInt8 } : ByteArray }, Value.slice (some { block := 72, off := 0 }) 0 9223372036854775880, Value.slice (some { block := 74, off := 0 }) 0 9223372036854775882], it := none : Sy.Blk }), (67, { rw := true, op := none, cells := [Value.int IntKind.i64 pages, Value.int IntKind.i64 stack, Value.int IntKind.i64 types, Value.slice (some { block := 70, off := 0 }) 0 9223372036854775878, Value.string { data := { toList := List.take ((if (20000 : Int) < (↑(lenT data) : Int) then (20000 : Int) else (↑(lenT data) : Int)).toNat - 0) (List.drop 0 data) : Array UInt8 } : ByteArray }, Value.slice (some { block := 72, off := 0 }) 0 9223372036854775880, Value.slice (some { block := 74, off := 0 }) 0 9223372036854775882], it := none : Sy.Blk })], lo := [(74, 0), (72, 0), (70, 0), (64, 0), (65, 0), (66, 0)], esc := 0, T := [], k := 0, O := bif decide ((0 : Int) ≤ if (20000 : Int) < (↑(lenT data) : Int) then (20000 : Int) else (↑(lenT data) : Int)) && decide ((if (20000 : Int) < (↑(lenT data) : Int) then (20000 : Int) else (↑(lenT data) : Int)) ≤ (↑(lenT data) : Int)) then True else False : St }) := by kernel_rfl
theorem own_eel (pages : Int) (stack : Int) (types : Int) (data : List UInt8) (cs : List Nat) (rs : List Rl) (starts : List Nat) : evF Try.prog noBase noLoop 100 10 9 [Value.agg { toList := [Value.int IntKind.i64 pages, Value.int IntKind.i64 stack, Value.int IntKind.i64 types, Value.slice (some { block := 64, off := 0, spot := some 64 }) 0 (big + 64), Value.string { data := { toList := data : Array UInt8 } : ByteArray }, Value.slice (some { block := 65, off := 0, spot := some 65 }) 0 (big + 65), Value.slice (some { block := 66, off := 0 }) starts.length (big + 66)] }] { n := 67, h := [(66, { rw := false, op := some (0, 0), cells := u32s starts, it := none : Sy.Blk })], lo := [(64, 0), (65, 0), (66, starts.length)], esc := 0, T := [], k := 0, O := True : St } = some (Value.agg { toList := [Value.int IntKind.i64 pages, Value.int IntKind.i64 stack, Value.int IntKind.i64 types, Value.slice (some { block := 70, off := 0 }) 0 9223372036854775878, Value.string { data := { toList := List.take ((if (20000 : Int) < (↑(lenT data) : Int) then (20000 : Int) else (↑(lenT data) : Int)).toNat - 0) (List.drop 0 data) : Array UInt8 } : ByteArray }, Value.slice (some { block := 72, off := 0 }) 0 9223372036854775880, Value.slice (some { block := 74, off := 0 }) (0 + (if (6 : Int) < (↑starts.length : Int) then (6 : Int) else (↑starts.length : Int)).toNat) 9223372036854775882] }, { n := 75, h := [(74, { rw := true, op := some (74, 1), cells := List.take ((if (6 : Int) < (↑starts.length : Int) then (6 : Int) else (↑starts.length : Int)).toNat * 1) (List.drop 0 (u32s starts)), it := none : Sy.Blk }), (72, { rw := true, op := some (72, 6), cells := [], it := none : Sy.Blk }), (70, { rw := true, op := some (70, 1), cells := [], it := none : Sy.Blk }), (68, { rw := true, op := none, cells := [Value.int IntKind.i64 pages, Value.int IntKind.i64 stack, Value.int IntKind.i64 types, Value.slice (some { block := 70, off := 0 }) 0 9223372036854775878, Value.string { data := { toList := List.take ((if (20000 : Int) < (↑(lenT data) : Int) then (20000 : Int) else (↑(lenT data) : Int)).toNat - 0) (List.drop 0 data) : Array UInt8 } : ByteArray }, Value.slice (some { block := 72, off := 0 }) 0 9223372036854775880, Value.slice (some { block := 74, off := 0 }) (0 + (if (6 : Int) < (↑starts.length : Int) then (6 : Int) else (↑starts.length : Int)).toNat) 9223372036854775882], it := none : Sy.Blk }), (67, { rw := true, op := none, cells := [Value.int IntKind.i64 pages, Value.int IntKind.i64 stack, Value.int IntKind.i64 types, Value.slice (some { block := 70, off := 0 }) 0 9223372036854775878, Value.string { data := { toList := List.take ((if (20000 : Int) < (↑(lenT data) : Int) then (20000 : Int) else (↑(lenT data) : Int)).toNat - 0) (List.drop 0 data) : Array UInt8 } : ByteArray }, Value.slice (some { block := 72, off := 0 }) 0 9223372036854775880, Value.slice (some { block := 74, off := 0 }) (0 + (if (6 : Int) < (↑starts.length : Int) then (6 : Int) else (↑starts.length : Int)).toNat) 9223372036854775882], it := none : Sy.Blk }), (66, { rw := false, op := some (0, 0), cells := u32s starts, it := none : Sy.Blk })], lo := [(74, 0 + (if (6 : Int) < (↑starts.length : Int) then (6 : Int) else (↑starts.length : Int)).toNat), (72, 0), (70, 0), (64, 0), (65, 0), (66, starts.length)], esc := 0, T := [], k := 0, O := bif (lenT (List.take ((if (6 : Int) < (↑starts.length : Int) then (6 : Int) else (↑starts.length : Int)).toNat * 1) (List.drop 0 (u32s starts)))).beq ((if (6 : Int) < (↑starts.length : Int) then (6 : Int) else (↑starts.length : Int)).toNat * 1) && oneC (List.take ((if (6 : Int) < (↑starts.length : Int) then (6 : Int) else (↑starts.length : Int)).toNat * 1) (List.drop 0 (u32s starts))) && ((0 + (if (6 : Int) < (↑starts.length : Int) then (6 : Int) else (↑starts.length : Int)).toNat) * 4).ble 1099511627776 && (0 + (if (6 : Int) < (↑starts.length : Int) then (6 : Int) else (↑starts.length : Int)).toNat).blt 4611686018427387904 then bif hasN (0 + (if (6 : Int) < (↑starts.length : Int) then (6 : Int) else (↑starts.length : Int)).toNat * 1) (u32s starts) then bif decide ((0 : Int) ≤ if (6 : Int) < (↑starts.length : Int) then (6 : Int) else (↑starts.length : Int)) && decide ((if (6 : Int) < (↑starts.length : Int) then (6 : Int) else (↑starts.length : Int)) ≤ (↑starts.length : Int)) then bif decide ((0 : Int) ≤ if (20000 : Int) < (↑(lenT data) : Int) then (20000 : Int) else (↑(lenT data) : Int)) && decide ((if (20000 : Int) < (↑(lenT data) : Int) then (20000 : Int) else (↑(lenT data) : Int)) ≤ (↑(lenT data) : Int)) then True else False else False else False else False : St }) := by kernel_rfl
theorem own_eln (pages : Int) (stack : Int) (types : Int) (data : List UInt8) (cs : List Nat) (rs : List Rl) (starts : List Nat) : evF Try.prog noBase noLoop 100 10 9 [Value.agg { toList := [Value.int IntKind.i64 pages, Value.int IntKind.i64 stack, Value.int IntKind.i64 types, Value.slice (some { block := 64, off := 0, spot := some 64 }) 0 (big + 64), Value.string { data := { toList := data : Array UInt8 } : ByteArray }, Value.slice (some { block := 65, off := 0 }) rs.length (big + 65), Value.slice none 0 0] }] { n := 67, h := [(65, { rw := false, op := some (0, 0), cells := rels rs, it := none : Sy.Blk })], lo := [(64, 0), (65, rs.length), (66, 0)], esc := 0, T := [], k := 0, O := True : St } = some (Value.agg { toList := [Value.int IntKind.i64 pages, Value.int IntKind.i64 stack, Value.int IntKind.i64 types, Value.slice (some { block := 70, off := 0 }) 0 9223372036854775878, Value.string { data := { toList := List.take ((if (20000 : Int) < (↑(lenT data) : Int) then (20000 : Int) else (↑(lenT data) : Int)).toNat - 0) (List.drop 0 data) : Array UInt8 } : ByteArray }, Value.slice (some { block := 72, off := 0 }) (0 + (if (300 : Int) < (↑rs.length : Int) then (300 : Int) else (↑rs.length : Int)).toNat) 9223372036854775880, Value.slice (some { block := 74, off := 0 }) 0 9223372036854775882] }, { n := 75, h := [(74, { rw := true, op := some (74, 1), cells := [], it := none : Sy.Blk }), (72, { rw := true, op := some (72, 6), cells := List.take ((if (300 : Int) < (↑rs.length : Int) then (300 : Int) else (↑rs.length : Int)).toNat * 6) (List.drop 0 (rels rs)), it := none : Sy.Blk }), (70, { rw := true, op := some (70, 1), cells := [], it := none : Sy.Blk }), (68, { rw := true, op := none, cells := [Value.int IntKind.i64 pages, Value.int IntKind.i64 stack, Value.int IntKind.i64 types, Value.slice (some { block := 70, off := 0 }) 0 9223372036854775878, Value.string { data := { toList := List.take ((if (20000 : Int) < (↑(lenT data) : Int) then (20000 : Int) else (↑(lenT data) : Int)).toNat - 0) (List.drop 0 data) : Array UInt8 } : ByteArray }, Value.slice (some { block := 72, off := 0 }) (0 + (if (300 : Int) < (↑rs.length : Int) then (300 : Int) else (↑rs.length : Int)).toNat) 9223372036854775880, Value.slice (some { block := 74, off := 0 }) 0 9223372036854775882], it := none : Sy.Blk }), (67, { rw := true, op := none, cells := [Value.int IntKind.i64 pages, Value.int IntKind.i64 stack, Value.int IntKind.i64 types, Value.slice (some { block := 70, off := 0 }) 0 9223372036854775878, Value.string { data := { toList := List.take ((if (20000 : Int) < (↑(lenT data) : Int) then (20000 : Int) else (↑(lenT data) : Int)).toNat - 0) (List.drop 0 data) : Array UInt8 } : ByteArray }, Value.slice (some { block := 72, off := 0 }) (0 + (if (300 : Int) < (↑rs.length : Int) then (300 : Int) else (↑rs.length : Int)).toNat) 9223372036854775880, Value.slice (some { block := 74, off := 0 }) 0 9223372036854775882], it := none : Sy.Blk }), (65, { rw := false, op := some (0, 0), cells := rels rs, it := none : Sy.Blk })], lo := [(74, 0), (72, 0 + (if (300 : Int) < (↑rs.length : Int) then (300 : Int) else (↑rs.length : Int)).toNat), (70, 0), (64, 0), (65, rs.length), (66, 0)], esc := 0, T := [], k := 0, O := bif (lenT (List.take ((if (300 : Int) < (↑rs.length : Int) then (300 : Int) else (↑rs.length : Int)).toNat * 6) (List.drop 0 (rels rs)))).beq ((if (300 : Int) < (↑rs.length : Int) then (300 : Int) else (↑rs.length : Int)).toNat * 6) && oneC (List.take ((if (300 : Int) < (↑rs.length : Int) then (300 : Int) else (↑rs.length : Int)).toNat * 6) (List.drop 0 (rels rs))) && ((0 + (if (300 : Int) < (↑rs.length : Int) then (300 : Int) else (↑rs.length : Int)).toNat) * 20).ble 1099511627776 && (0 + (if (300 : Int) < (↑rs.length : Int) then (300 : Int) else (↑rs.length : Int)).toNat).blt 4611686018427387904 then bif hasN (0 + (if (300 : Int) < (↑rs.length : Int) then (300 : Int) else (↑rs.length : Int)).toNat * 6) (rels rs) then bif decide ((0 : Int) ≤ if (300 : Int) < (↑rs.length : Int) then (300 : Int) else (↑rs.length : Int)) && decide ((if (300 : Int) < (↑rs.length : Int) then (300 : Int) else (↑rs.length : Int)) ≤ (↑rs.length : Int)) then bif decide ((0 : Int) ≤ if (20000 : Int) < (↑(lenT data) : Int) then (20000 : Int) else (↑(lenT data) : Int)) && decide ((if (20000 : Int) < (↑(lenT data) : Int) then (20000 : Int) else (↑(lenT data) : Int)) ≤ (↑(lenT data) : Int)) then True else False else False else False else False : St }) := by kernel_rfl
theorem own_ele (pages : Int) (stack : Int) (types : Int) (data : List UInt8) (cs : List Nat) (rs : List Rl) (starts : List Nat) : evF Try.prog noBase noLoop 100 10 9 [Value.agg { toList := [Value.int IntKind.i64 pages, Value.int IntKind.i64 stack, Value.int IntKind.i64 types, Value.slice (some { block := 64, off := 0, spot := some 64 }) 0 (big + 64), Value.string { data := { toList := data : Array UInt8 } : ByteArray }, Value.slice (some { block := 65, off := 0 }) rs.length (big + 65), Value.slice (some { block := 66, off := 0, spot := some 66 }) 0 (big + 66)] }] { n := 67, h := [(65, { rw := false, op := some (0, 0), cells := rels rs, it := none : Sy.Blk })], lo := [(64, 0), (65, rs.length), (66, 0)], esc := 0, T := [], k := 0, O := True : St } = some (Value.agg { toList := [Value.int IntKind.i64 pages, Value.int IntKind.i64 stack, Value.int IntKind.i64 types, Value.slice (some { block := 70, off := 0 }) 0 9223372036854775878, Value.string { data := { toList := List.take ((if (20000 : Int) < (↑(lenT data) : Int) then (20000 : Int) else (↑(lenT data) : Int)).toNat - 0) (List.drop 0 data) : Array UInt8 } : ByteArray }, Value.slice (some { block := 72, off := 0 }) (0 + (if (300 : Int) < (↑rs.length : Int) then (300 : Int) else (↑rs.length : Int)).toNat) 9223372036854775880, Value.slice (some { block := 74, off := 0 }) 0 9223372036854775882] }, { n := 75, h := [(74, { rw := true, op := some (74, 1), cells := [], it := none : Sy.Blk }), (72, { rw := true, op := some (72, 6), cells := List.take ((if (300 : Int) < (↑rs.length : Int) then (300 : Int) else (↑rs.length : Int)).toNat * 6) (List.drop 0 (rels rs)), it := none : Sy.Blk }), (70, { rw := true, op := some (70, 1), cells := [], it := none : Sy.Blk }), (68, { rw := true, op := none, cells := [Value.int IntKind.i64 pages, Value.int IntKind.i64 stack, Value.int IntKind.i64 types, Value.slice (some { block := 70, off := 0 }) 0 9223372036854775878, Value.string { data := { toList := List.take ((if (20000 : Int) < (↑(lenT data) : Int) then (20000 : Int) else (↑(lenT data) : Int)).toNat - 0) (List.drop 0 data) : Array UInt8 } : ByteArray }, Value.slice (some { block := 72, off := 0 }) (0 + (if (300 : Int) < (↑rs.length : Int) then (300 : Int) else (↑rs.length : Int)).toNat) 9223372036854775880, Value.slice (some { block := 74, off := 0 }) 0 9223372036854775882], it := none : Sy.Blk }), (67, { rw := true, op := none, cells := [Value.int IntKind.i64 pages, Value.int IntKind.i64 stack, Value.int IntKind.i64 types, Value.slice (some { block := 70, off := 0 }) 0 9223372036854775878, Value.string { data := { toList := List.take ((if (20000 : Int) < (↑(lenT data) : Int) then (20000 : Int) else (↑(lenT data) : Int)).toNat - 0) (List.drop 0 data) : Array UInt8 } : ByteArray }, Value.slice (some { block := 72, off := 0 }) (0 + (if (300 : Int) < (↑rs.length : Int) then (300 : Int) else (↑rs.length : Int)).toNat) 9223372036854775880, Value.slice (some { block := 74, off := 0 }) 0 9223372036854775882], it := none : Sy.Blk }), (65, { rw := false, op := some (0, 0), cells := rels rs, it := none : Sy.Blk })], lo := [(74, 0), (72, 0 + (if (300 : Int) < (↑rs.length : Int) then (300 : Int) else (↑rs.length : Int)).toNat), (70, 0), (64, 0), (65, rs.length), (66, 0)], esc := 0, T := [], k := 0, O := bif (lenT (List.take ((if (300 : Int) < (↑rs.length : Int) then (300 : Int) else (↑rs.length : Int)).toNat * 6) (List.drop 0 (rels rs)))).beq ((if (300 : Int) < (↑rs.length : Int) then (300 : Int) else (↑rs.length : Int)).toNat * 6) && oneC (List.take ((if (300 : Int) < (↑rs.length : Int) then (300 : Int) else (↑rs.length : Int)).toNat * 6) (List.drop 0 (rels rs))) && ((0 + (if (300 : Int) < (↑rs.length : Int) then (300 : Int) else (↑rs.length : Int)).toNat) * 20).ble 1099511627776 && (0 + (if (300 : Int) < (↑rs.length : Int) then (300 : Int) else (↑rs.length : Int)).toNat).blt 4611686018427387904 then bif hasN (0 + (if (300 : Int) < (↑rs.length : Int) then (300 : Int) else (↑rs.length : Int)).toNat * 6) (rels rs) then bif decide ((0 : Int) ≤ if (300 : Int) < (↑rs.length : Int) then (300 : Int) else (↑rs.length : Int)) && decide ((if (300 : Int) < (↑rs.length : Int) then (300 : Int) else (↑rs.length : Int)) ≤ (↑rs.length : Int)) then bif decide ((0 : Int) ≤ if (20000 : Int) < (↑(lenT data) : Int) then (20000 : Int) else (↑(lenT data) : Int)) && decide ((if (20000 : Int) < (↑(lenT data) : Int) then (20000 : Int) else (↑(lenT data) : Int)) ≤ (↑(lenT data) : Int)) then True else False else False else False else False : St }) := by kernel_rfl
theorem own_ell (pages : Int) (stack : Int) (types : Int) (data : List UInt8) (cs : List Nat) (rs : List Rl) (starts : List Nat) : evF Try.prog noBase noLoop 100 10 9 [Value.agg { toList := [Value.int IntKind.i64 pages, Value.int IntKind.i64 stack, Value.int IntKind.i64 types, Value.slice (some { block := 64, off := 0, spot := some 64 }) 0 (big + 64), Value.string { data := { toList := data : Array UInt8 } : ByteArray }, Value.slice (some { block := 65, off := 0 }) rs.length (big + 65), Value.slice (some { block := 66, off := 0 }) starts.length (big + 66)] }] { n := 67, h := [(65, { rw := false, op := some (0, 0), cells := rels rs, it := none : Sy.Blk }), (66, { rw := false, op := some (0, 0), cells := u32s starts, it := none : Sy.Blk })], lo := [(64, 0), (65, rs.length), (66, starts.length)], esc := 0, T := [], k := 0, O := True : St } = some (Value.agg { toList := [Value.int IntKind.i64 pages, Value.int IntKind.i64 stack, Value.int IntKind.i64 types, Value.slice (some { block := 70, off := 0 }) 0 9223372036854775878, Value.string { data := { toList := List.take ((if (20000 : Int) < (↑(lenT data) : Int) then (20000 : Int) else (↑(lenT data) : Int)).toNat - 0) (List.drop 0 data) : Array UInt8 } : ByteArray }, Value.slice (some { block := 72, off := 0 }) (0 + (if (300 : Int) < (↑rs.length : Int) then (300 : Int) else (↑rs.length : Int)).toNat) 9223372036854775880, Value.slice (some { block := 74, off := 0 }) (0 + (if (6 : Int) < (↑starts.length : Int) then (6 : Int) else (↑starts.length : Int)).toNat) 9223372036854775882] }, { n := 75, h := [(74, { rw := true, op := some (74, 1), cells := List.take ((if (6 : Int) < (↑starts.length : Int) then (6 : Int) else (↑starts.length : Int)).toNat * 1) (List.drop 0 (u32s starts)), it := none : Sy.Blk }), (72, { rw := true, op := some (72, 6), cells := List.take ((if (300 : Int) < (↑rs.length : Int) then (300 : Int) else (↑rs.length : Int)).toNat * 6) (List.drop 0 (rels rs)), it := none : Sy.Blk }), (70, { rw := true, op := some (70, 1), cells := [], it := none : Sy.Blk }), (68, { rw := true, op := none, cells := [Value.int IntKind.i64 pages, Value.int IntKind.i64 stack, Value.int IntKind.i64 types, Value.slice (some { block := 70, off := 0 }) 0 9223372036854775878, Value.string { data := { toList := List.take ((if (20000 : Int) < (↑(lenT data) : Int) then (20000 : Int) else (↑(lenT data) : Int)).toNat - 0) (List.drop 0 data) : Array UInt8 } : ByteArray }, Value.slice (some { block := 72, off := 0 }) (0 + (if (300 : Int) < (↑rs.length : Int) then (300 : Int) else (↑rs.length : Int)).toNat) 9223372036854775880, Value.slice (some { block := 74, off := 0 }) (0 + (if (6 : Int) < (↑starts.length : Int) then (6 : Int) else (↑starts.length : Int)).toNat) 9223372036854775882], it := none : Sy.Blk }), (67, { rw := true, op := none, cells := [Value.int IntKind.i64 pages, Value.int IntKind.i64 stack, Value.int IntKind.i64 types, Value.slice (some { block := 70, off := 0 }) 0 9223372036854775878, Value.string { data := { toList := List.take ((if (20000 : Int) < (↑(lenT data) : Int) then (20000 : Int) else (↑(lenT data) : Int)).toNat - 0) (List.drop 0 data) : Array UInt8 } : ByteArray }, Value.slice (some { block := 72, off := 0 }) (0 + (if (300 : Int) < (↑rs.length : Int) then (300 : Int) else (↑rs.length : Int)).toNat) 9223372036854775880, Value.slice (some { block := 74, off := 0 }) (0 + (if (6 : Int) < (↑starts.length : Int) then (6 : Int) else (↑starts.length : Int)).toNat) 9223372036854775882], it := none : Sy.Blk }), (65, { rw := false, op := some (0, 0), cells := rels rs, it := none : Sy.Blk }), (66, { rw := false, op := some (0, 0), cells := u32s starts, it := none : Sy.Blk })], lo := [(74, 0 + (if (6 : Int) < (↑starts.length : Int) then (6 : Int) else (↑starts.length : Int)).toNat), (72, 0 + (if (300 : Int) < (↑rs.length : Int) then (300 : Int) else (↑rs.length : Int)).toNat), (70, 0), (64, 0), (65, rs.length), (66, starts.length)], esc := 0, T := [], k := 0, O := bif (lenT (List.take ((if (6 : Int) < (↑starts.length : Int) then (6 : Int) else (↑starts.length : Int)).toNat * 1) (List.drop 0 (u32s starts)))).beq ((if (6 : Int) < (↑starts.length : Int) then (6 : Int) else (↑starts.length : Int)).toNat * 1) && oneC (List.take ((if (6 : Int) < (↑starts.length : Int) then (6 : Int) else (↑starts.length : Int)).toNat * 1) (List.drop 0 (u32s starts))) && ((0 + (if (6 : Int) < (↑starts.length : Int) then (6 : Int) else (↑starts.length : Int)).toNat) * 4).ble 1099511627776 && (0 + (if (6 : Int) < (↑starts.length : Int) then (6 : Int) else (↑starts.length : Int)).toNat).blt 4611686018427387904 then bif hasN (0 + (if (6 : Int) < (↑starts.length : Int) then (6 : Int) else (↑starts.length : Int)).toNat * 1) (u32s starts) then bif decide ((0 : Int) ≤ if (6 : Int) < (↑starts.length : Int) then (6 : Int) else (↑starts.length : Int)) && decide ((if (6 : Int) < (↑starts.length : Int) then (6 : Int) else (↑starts.length : Int)) ≤ (↑starts.length : Int)) then bif (lenT (List.take ((if (300 : Int) < (↑rs.length : Int) then (300 : Int) else (↑rs.length : Int)).toNat * 6) (List.drop 0 (rels rs)))).beq ((if (300 : Int) < (↑rs.length : Int) then (300 : Int) else (↑rs.length : Int)).toNat * 6) && oneC (List.take ((if (300 : Int) < (↑rs.length : Int) then (300 : Int) else (↑rs.length : Int)).toNat * 6) (List.drop 0 (rels rs))) && ((0 + (if (300 : Int) < (↑rs.length : Int) then (300 : Int) else (↑rs.length : Int)).toNat) * 20).ble 1099511627776 && (0 + (if (300 : Int) < (↑rs.length : Int) then (300 : Int) else (↑rs.length : Int)).toNat).blt 4611686018427387904 then bif hasN (0 + (if (300 : Int) < (↑rs.length : Int) then (300 : Int) else (↑rs.length : Int)).toNat * 6) (rels rs) then bif decide ((0 : Int) ≤ if (300 : Int) < (↑rs.length : Int) then (300 : Int) else (↑rs.length : Int)) && decide ((if (300 : Int) < (↑rs.length : Int) then (300 : Int) else (↑rs.length : Int)) ≤ (↑rs.length : Int)) then bif decide ((0 : Int) ≤ if (20000 : Int) < (↑(lenT data) : Int) then (20000 : Int) else (↑(lenT data) : Int)) && decide ((if (20000 : Int) < (↑(lenT data) : Int) then (20000 : Int) else (↑(lenT data) : Int)) ≤ (↑(lenT data) : Int)) then True else False else False else False else False else False else False else False : St }) := by kernel_rfl
theorem own_lnn (pages : Int) (stack : Int) (types : Int) (data : List UInt8) (cs : List Nat) (rs : List Rl) (starts : List Nat) : evF Try.prog noBase noLoop 100 10 9 [Value.agg { toList := [Value.int IntKind.i64 pages, Value.int IntKind.i64 stack, Value.int IntKind.i64 types, Value.slice (some { block := 64, off := 0 }) cs.length (big + 64), Value.string { data := { toList := data : Array UInt8 } : ByteArray }, Value.slice none 0 0, Value.slice none 0 0] }] { n := 67, h := [(64, { rw := false, op := some (0, 0), cells := u32s cs, it := none : Sy.Blk })], lo := [(64, cs.length), (65, 0), (66, 0)], esc := 0, T := [], k := 0, O := True : St } = some (Value.agg { toList := [Value.int IntKind.i64 pages, Value.int IntKind.i64 stack, Value.int IntKind.i64 types, Value.slice (some { block := 70, off := 0 }) (0 + (if (5000 : Int) < (↑cs.length : Int) then (5000 : Int) else (↑cs.length : Int)).toNat) 9223372036854775878, Value.string { data := { toList := List.take ((if (20000 : Int) < (↑(lenT data) : Int) then (20000 : Int) else (↑(lenT data) : Int)).toNat - 0) (List.drop 0 data) : Array UInt8 } : ByteArray }, Value.slice (some { block := 72, off := 0 }) 0 9223372036854775880, Value.slice (some { block := 74, off := 0 }) 0 9223372036854775882] }, { n := 75, h := [(74, { rw := true, op := some (74, 1), cells := [], it := none : Sy.Blk }), (72, { rw := true, op := some (72, 6), cells := [], it := none : Sy.Blk }), (70, { rw := true, op := some (70, 1), cells := List.take ((if (5000 : Int) < (↑cs.length : Int) then (5000 : Int) else (↑cs.length : Int)).toNat * 1) (List.drop 0 (u32s cs)), it := none : Sy.Blk }), (68, { rw := true, op := none, cells := [Value.int IntKind.i64 pages, Value.int IntKind.i64 stack, Value.int IntKind.i64 types, Value.slice (some { block := 70, off := 0 }) (0 + (if (5000 : Int) < (↑cs.length : Int) then (5000 : Int) else (↑cs.length : Int)).toNat) 9223372036854775878, Value.string { data := { toList := List.take ((if (20000 : Int) < (↑(lenT data) : Int) then (20000 : Int) else (↑(lenT data) : Int)).toNat - 0) (List.drop 0 data) : Array UInt8 } : ByteArray }, Value.slice (some { block := 72, off := 0 }) 0 9223372036854775880, Value.slice (some { block := 74, off := 0 }) 0 9223372036854775882], it := none : Sy.Blk }), (67, { rw := true, op := none, cells := [Value.int IntKind.i64 pages, Value.int IntKind.i64 stack, Value.int IntKind.i64 types, Value.slice (some { block := 70, off := 0 }) (0 + (if (5000 : Int) < (↑cs.length : Int) then (5000 : Int) else (↑cs.length : Int)).toNat) 9223372036854775878, Value.string { data := { toList := List.take ((if (20000 : Int) < (↑(lenT data) : Int) then (20000 : Int) else (↑(lenT data) : Int)).toNat - 0) (List.drop 0 data) : Array UInt8 } : ByteArray }, Value.slice (some { block := 72, off := 0 }) 0 9223372036854775880, Value.slice (some { block := 74, off := 0 }) 0 9223372036854775882], it := none : Sy.Blk }), (64, { rw := false, op := some (0, 0), cells := u32s cs, it := none : Sy.Blk })], lo := [(74, 0), (72, 0), (70, 0 + (if (5000 : Int) < (↑cs.length : Int) then (5000 : Int) else (↑cs.length : Int)).toNat), (64, cs.length), (65, 0), (66, 0)], esc := 0, T := [], k := 0, O := bif decide ((0 : Int) ≤ if (20000 : Int) < (↑(lenT data) : Int) then (20000 : Int) else (↑(lenT data) : Int)) && decide ((if (20000 : Int) < (↑(lenT data) : Int) then (20000 : Int) else (↑(lenT data) : Int)) ≤ (↑(lenT data) : Int)) then bif (lenT (List.take ((if (5000 : Int) < (↑cs.length : Int) then (5000 : Int) else (↑cs.length : Int)).toNat * 1) (List.drop 0 (u32s cs)))).beq ((if (5000 : Int) < (↑cs.length : Int) then (5000 : Int) else (↑cs.length : Int)).toNat * 1) && oneC (List.take ((if (5000 : Int) < (↑cs.length : Int) then (5000 : Int) else (↑cs.length : Int)).toNat * 1) (List.drop 0 (u32s cs))) && ((0 + (if (5000 : Int) < (↑cs.length : Int) then (5000 : Int) else (↑cs.length : Int)).toNat) * 4).ble 1099511627776 && (0 + (if (5000 : Int) < (↑cs.length : Int) then (5000 : Int) else (↑cs.length : Int)).toNat).blt 4611686018427387904 then bif hasN (0 + (if (5000 : Int) < (↑cs.length : Int) then (5000 : Int) else (↑cs.length : Int)).toNat * 1) (u32s cs) then bif decide ((0 : Int) ≤ if (5000 : Int) < (↑cs.length : Int) then (5000 : Int) else (↑cs.length : Int)) && decide ((if (5000 : Int) < (↑cs.length : Int) then (5000 : Int) else (↑cs.length : Int)) ≤ (↑cs.length : Int)) then True else False else False else False else False : St }) := by kernel_rfl
theorem own_lne (pages : Int) (stack : Int) (types : Int) (data : List UInt8) (cs : List Nat) (rs : List Rl) (starts : List Nat) : evF Try.prog noBase noLoop 100 10 9 [Value.agg { toList := [Value.int IntKind.i64 pages, Value.int IntKind.i64 stack, Value.int IntKind.i64 types, Value.slice (some { block := 64, off := 0 }) cs.length (big + 64), Value.string { data := { toList := data : Array UInt8 } : ByteArray }, Value.slice none 0 0, Value.slice (some { block := 66, off := 0, spot := some 66 }) 0 (big + 66)] }] { n := 67, h := [(64, { rw := false, op := some (0, 0), cells := u32s cs, it := none : Sy.Blk })], lo := [(64, cs.length), (65, 0), (66, 0)], esc := 0, T := [], k := 0, O := True : St } = some (Value.agg { toList := [Value.int IntKind.i64 pages, Value.int IntKind.i64 stack, Value.int IntKind.i64 types, Value.slice (some { block := 70, off := 0 }) (0 + (if (5000 : Int) < (↑cs.length : Int) then (5000 : Int) else (↑cs.length : Int)).toNat) 9223372036854775878, Value.string { data := { toList := List.take ((if (20000 : Int) < (↑(lenT data) : Int) then (20000 : Int) else (↑(lenT data) : Int)).toNat - 0) (List.drop 0 data) : Array UInt8 } : ByteArray }, Value.slice (some { block := 72, off := 0 }) 0 9223372036854775880, Value.slice (some { block := 74, off := 0 }) 0 9223372036854775882] }, { n := 75, h := [(74, { rw := true, op := some (74, 1), cells := [], it := none : Sy.Blk }), (72, { rw := true, op := some (72, 6), cells := [], it := none : Sy.Blk }), (70, { rw := true, op := some (70, 1), cells := List.take ((if (5000 : Int) < (↑cs.length : Int) then (5000 : Int) else (↑cs.length : Int)).toNat * 1) (List.drop 0 (u32s cs)), it := none : Sy.Blk }), (68, { rw := true, op := none, cells := [Value.int IntKind.i64 pages, Value.int IntKind.i64 stack, Value.int IntKind.i64 types, Value.slice (some { block := 70, off := 0 }) (0 + (if (5000 : Int) < (↑cs.length : Int) then (5000 : Int) else (↑cs.length : Int)).toNat) 9223372036854775878, Value.string { data := { toList := List.take ((if (20000 : Int) < (↑(lenT data) : Int) then (20000 : Int) else (↑(lenT data) : Int)).toNat - 0) (List.drop 0 data) : Array UInt8 } : ByteArray }, Value.slice (some { block := 72, off := 0 }) 0 9223372036854775880, Value.slice (some { block := 74, off := 0 }) 0 9223372036854775882], it := none : Sy.Blk }), (67, { rw := true, op := none, cells := [Value.int IntKind.i64 pages, Value.int IntKind.i64 stack, Value.int IntKind.i64 types, Value.slice (some { block := 70, off := 0 }) (0 + (if (5000 : Int) < (↑cs.length : Int) then (5000 : Int) else (↑cs.length : Int)).toNat) 9223372036854775878, Value.string { data := { toList := List.take ((if (20000 : Int) < (↑(lenT data) : Int) then (20000 : Int) else (↑(lenT data) : Int)).toNat - 0) (List.drop 0 data) : Array UInt8 } : ByteArray }, Value.slice (some { block := 72, off := 0 }) 0 9223372036854775880, Value.slice (some { block := 74, off := 0 }) 0 9223372036854775882], it := none : Sy.Blk }), (64, { rw := false, op := some (0, 0), cells := u32s cs, it := none : Sy.Blk })], lo := [(74, 0), (72, 0), (70, 0 + (if (5000 : Int) < (↑cs.length : Int) then (5000 : Int) else (↑cs.length : Int)).toNat), (64, cs.length), (65, 0), (66, 0)], esc := 0, T := [], k := 0, O := bif decide ((0 : Int) ≤ if (20000 : Int) < (↑(lenT data) : Int) then (20000 : Int) else (↑(lenT data) : Int)) && decide ((if (20000 : Int) < (↑(lenT data) : Int) then (20000 : Int) else (↑(lenT data) : Int)) ≤ (↑(lenT data) : Int)) then bif (lenT (List.take ((if (5000 : Int) < (↑cs.length : Int) then (5000 : Int) else (↑cs.length : Int)).toNat * 1) (List.drop 0 (u32s cs)))).beq ((if (5000 : Int) < (↑cs.length : Int) then (5000 : Int) else (↑cs.length : Int)).toNat * 1) && oneC (List.take ((if (5000 : Int) < (↑cs.length : Int) then (5000 : Int) else (↑cs.length : Int)).toNat * 1) (List.drop 0 (u32s cs))) && ((0 + (if (5000 : Int) < (↑cs.length : Int) then (5000 : Int) else (↑cs.length : Int)).toNat) * 4).ble 1099511627776 && (0 + (if (5000 : Int) < (↑cs.length : Int) then (5000 : Int) else (↑cs.length : Int)).toNat).blt 4611686018427387904 then bif hasN (0 + (if (5000 : Int) < (↑cs.length : Int) then (5000 : Int) else (↑cs.length : Int)).toNat * 1) (u32s cs) then bif decide ((0 : Int) ≤ if (5000 : Int) < (↑cs.length : Int) then (5000 : Int) else (↑cs.length : Int)) && decide ((if (5000 : Int) < (↑cs.length : Int) then (5000 : Int) else (↑cs.length : Int)) ≤ (↑cs.length : Int)) then True else False else False else False else False : St }) := by kernel_rfl
theorem own_lnl (pages : Int) (stack : Int) (types : Int) (data : List UInt8) (cs : List Nat) (rs : List Rl) (starts : List Nat) : evF Try.prog noBase noLoop 100 10 9 [Value.agg { toList := [Value.int IntKind.i64 pages, Value.int IntKind.i64 stack, Value.int IntKind.i64 types, Value.slice (some { block := 64, off := 0 }) cs.length (big + 64), Value.string { data := { toList := data : Array UInt8 } : ByteArray }, Value.slice none 0 0, Value.slice (some { block := 66, off := 0 }) starts.length (big + 66)] }] { n := 67, h := [(64, { rw := false, op := some (0, 0), cells := u32s cs, it := none : Sy.Blk }), (66, { rw := false, op := some (0, 0), cells := u32s starts, it := none : Sy.Blk })], lo := [(64, cs.length), (65, 0), (66, starts.length)], esc := 0, T := [], k := 0, O := True : St } = some (Value.agg { toList := [Value.int IntKind.i64 pages, Value.int IntKind.i64 stack, Value.int IntKind.i64 types, Value.slice (some { block := 70, off := 0 }) (0 + (if (5000 : Int) < (↑cs.length : Int) then (5000 : Int) else (↑cs.length : Int)).toNat) 9223372036854775878, Value.string { data := { toList := List.take ((if (20000 : Int) < (↑(lenT data) : Int) then (20000 : Int) else (↑(lenT data) : Int)).toNat - 0) (List.drop 0 data) : Array UInt8 } : ByteArray }, Value.slice (some { block := 72, off := 0 }) 0 9223372036854775880, Value.slice (some { block := 74, off := 0 }) (0 + (if (6 : Int) < (↑starts.length : Int) then (6 : Int) else (↑starts.length : Int)).toNat) 9223372036854775882] }, { n := 75, h := [(74, { rw := true, op := some (74, 1), cells := List.take ((if (6 : Int) < (↑starts.length : Int) then (6 : Int) else (↑starts.length : Int)).toNat * 1) (List.drop 0 (u32s starts)), it := none : Sy.Blk }), (72, { rw := true, op := some (72, 6), cells := [], it := none : Sy.Blk }), (70, { rw := true, op := some (70, 1), cells := List.take ((if (5000 : Int) < (↑cs.length : Int) then (5000 : Int) else (↑cs.length : Int)).toNat * 1) (List.drop 0 (u32s cs)), it := none : Sy.Blk }), (68, { rw := true, op := none, cells := [Value.int IntKind.i64 pages, Value.int IntKind.i64 stack, Value.int IntKind.i64 types, Value.slice (some { block := 70, off := 0 }) (0 + (if (5000 : Int) < (↑cs.length : Int) then (5000 : Int) else (↑cs.length : Int)).toNat) 9223372036854775878, Value.string { data := { toList := List.take ((if (20000 : Int) < (↑(lenT data) : Int) then (20000 : Int) else (↑(lenT data) : Int)).toNat - 0) (List.drop 0 data) : Array UInt8 } : ByteArray }, Value.slice (some { block := 72, off := 0 }) 0 9223372036854775880, Value.slice (some { block := 74, off := 0 }) (0 + (if (6 : Int) < (↑starts.length : Int) then (6 : Int) else (↑starts.length : Int)).toNat) 9223372036854775882], it := none : Sy.Blk }), (67, { rw := true, op := none, cells := [Value.int IntKind.i64 pages, Value.int IntKind.i64 stack, Value.int IntKind.i64 types, Value.slice (some { block := 70, off := 0 }) (0 + (if (5000 : Int) < (↑cs.length : Int) then (5000 : Int) else (↑cs.length : Int)).toNat) 9223372036854775878, Value.string { data := { toList := List.take ((if (20000 : Int) < (↑(lenT data) : Int) then (20000 : Int) else (↑(lenT data) : Int)).toNat - 0) (List.drop 0 data) : Array UInt8 } : ByteArray }, Value.slice (some { block := 72, off := 0 }) 0 9223372036854775880, Value.slice (some { block := 74, off := 0 }) (0 + (if (6 : Int) < (↑starts.length : Int) then (6 : Int) else (↑starts.length : Int)).toNat) 9223372036854775882], it := none : Sy.Blk }), (64, { rw := false, op := some (0, 0), cells := u32s cs, it := none : Sy.Blk }), (66, { rw := false, op := some (0, 0), cells := u32s starts, it := none : Sy.Blk })], lo := [(74, 0 + (if (6 : Int) < (↑starts.length : Int) then (6 : Int) else (↑starts.length : Int)).toNat), (72, 0), (70, 0 + (if (5000 : Int) < (↑cs.length : Int) then (5000 : Int) else (↑cs.length : Int)).toNat), (64, cs.length), (65, 0), (66, starts.length)], esc := 0, T := [], k := 0, O := bif (lenT (List.take ((if (6 : Int) < (↑starts.length : Int) then (6 : Int) else (↑starts.length : Int)).toNat * 1) (List.drop 0 (u32s starts)))).beq ((if (6 : Int) < (↑starts.length : Int) then (6 : Int) else (↑starts.length : Int)).toNat * 1) && oneC (List.take ((if (6 : Int) < (↑starts.length : Int) then (6 : Int) else (↑starts.length : Int)).toNat * 1) (List.drop 0 (u32s starts))) && ((0 + (if (6 : Int) < (↑starts.length : Int) then (6 : Int) else (↑starts.length : Int)).toNat) * 4).ble 1099511627776 && (0 + (if (6 : Int) < (↑starts.length : Int) then (6 : Int) else (↑starts.length : Int)).toNat).blt 4611686018427387904 then bif hasN (0 + (if (6 : Int) < (↑starts.length : Int) then (6 : Int) else (↑starts.length : Int)).toNat * 1) (u32s starts) then bif decide ((0 : Int) ≤ if (6 : Int) < (↑starts.length : Int) then (6 : Int) else (↑starts.length : Int)) && decide ((if (6 : Int) < (↑starts.length : Int) then (6 : Int) else (↑starts.length : Int)) ≤ (↑starts.length : Int)) then bif decide ((0 : Int) ≤ if (20000 : Int) < (↑(lenT data) : Int) then (20000 : Int) else (↑(lenT data) : Int)) && decide ((if (20000 : Int) < (↑(lenT data) : Int) then (20000 : Int) else (↑(lenT data) : Int)) ≤ (↑(lenT data) : Int)) then bif (lenT (List.take ((if (5000 : Int) < (↑cs.length : Int) then (5000 : Int) else (↑cs.length : Int)).toNat * 1) (List.drop 0 (u32s cs)))).beq ((if (5000 : Int) < (↑cs.length : Int) then (5000 : Int) else (↑cs.length : Int)).toNat * 1) && oneC (List.take ((if (5000 : Int) < (↑cs.length : Int) then (5000 : Int) else (↑cs.length : Int)).toNat * 1) (List.drop 0 (u32s cs))) && ((0 + (if (5000 : Int) < (↑cs.length : Int) then (5000 : Int) else (↑cs.length : Int)).toNat) * 4).ble 1099511627776 && (0 + (if (5000 : Int) < (↑cs.length : Int) then (5000 : Int) else (↑cs.length : Int)).toNat).blt 4611686018427387904 then bif hasN (0 + (if (5000 : Int) < (↑cs.length : Int) then (5000 : Int) else (↑cs.length : Int)).toNat * 1) (u32s cs) then bif decide ((0 : Int) ≤ if (5000 : Int) < (↑cs.length : Int) then (5000 : Int) else (↑cs.length : Int)) && decide ((if (5000 : Int) < (↑cs.length : Int) then (5000 : Int) else (↑cs.length : Int)) ≤ (↑cs.length : Int)) then True else False else False else False else False else False else False else False : St }) := by kernel_rfl
theorem own_len (pages : Int) (stack : Int) (types : Int) (data : List UInt8) (cs : List Nat) (rs : List Rl) (starts : List Nat) : evF Try.prog noBase noLoop 100 10 9 [Value.agg { toList := [Value.int IntKind.i64 pages, Value.int IntKind.i64 stack, Value.int IntKind.i64 types, Value.slice (some { block := 64, off := 0 }) cs.length (big + 64), Value.string { data := { toList := data : Array UInt8 } : ByteArray }, Value.slice (some { block := 65, off := 0, spot := some 65 }) 0 (big + 65), Value.slice none 0 0] }] { n := 67, h := [(64, { rw := false, op := some (0, 0), cells := u32s cs, it := none : Sy.Blk })], lo := [(64, cs.length), (65, 0), (66, 0)], esc := 0, T := [], k := 0, O := True : St } = some (Value.agg { toList := [Value.int IntKind.i64 pages, Value.int IntKind.i64 stack, Value.int IntKind.i64 types, Value.slice (some { block := 70, off := 0 }) (0 + (if (5000 : Int) < (↑cs.length : Int) then (5000 : Int) else (↑cs.length : Int)).toNat) 9223372036854775878, Value.string { data := { toList := List.take ((if (20000 : Int) < (↑(lenT data) : Int) then (20000 : Int) else (↑(lenT data) : Int)).toNat - 0) (List.drop 0 data) : Array UInt8 } : ByteArray }, Value.slice (some { block := 72, off := 0 }) 0 9223372036854775880, Value.slice (some { block := 74, off := 0 }) 0 9223372036854775882] }, { n := 75, h := [(74, { rw := true, op := some (74, 1), cells := [], it := none : Sy.Blk }), (72, { rw := true, op := some (72, 6), cells := [], it := none : Sy.Blk }), (70, { rw := true, op := some (70, 1), cells := List.take ((if (5000 : Int) < (↑cs.length : Int) then (5000 : Int) else (↑cs.length : Int)).toNat * 1) (List.drop 0 (u32s cs)), it := none : Sy.Blk }), (68, { rw := true, op := none, cells := [Value.int IntKind.i64 pages, Value.int IntKind.i64 stack, Value.int IntKind.i64 types, Value.slice (some { block := 70, off := 0 }) (0 + (if (5000 : Int) < (↑cs.length : Int) then (5000 : Int) else (↑cs.length : Int)).toNat) 9223372036854775878, Value.string { data := { toList := List.take ((if (20000 : Int) < (↑(lenT data) : Int) then (20000 : Int) else (↑(lenT data) : Int)).toNat - 0) (List.drop 0 data) : Array UInt8 } : ByteArray }, Value.slice (some { block := 72, off := 0 }) 0 9223372036854775880, Value.slice (some { block := 74, off := 0 }) 0 9223372036854775882], it := none : Sy.Blk }), (67, { rw := true, op := none, cells := [Value.int IntKind.i64 pages, Value.int IntKind.i64 stack, Value.int IntKind.i64 types, Value.slice (some { block := 70, off := 0 }) (0 + (if (5000 : Int) < (↑cs.length : Int) then (5000 : Int) else (↑cs.length : Int)).toNat) 9223372036854775878, Value.string { data := { toList := List.take ((if (20000 : Int) < (↑(lenT data) : Int) then (20000 : Int) else (↑(lenT data) : Int)).toNat - 0) (List.drop 0 data) : Array UInt8 } : ByteArray }, Value.slice (some { block := 72, off := 0 }) 0 9223372036854775880, Value.slice (some { block := 74, off := 0 }) 0 9223372036854775882], it := none : Sy.Blk }), (64, { rw := false, op := some (0, 0), cells := u32s cs, it := none : Sy.Blk })], lo := [(74, 0), (72, 0), (70, 0 + (if (5000 : Int) < (↑cs.length : Int) then (5000 : Int) else (↑cs.length : Int)).toNat), (64, cs.length), (65, 0), (66, 0)], esc := 0, T := [], k := 0, O := bif decide ((0 : Int) ≤ if (20000 : Int) < (↑(lenT data) : Int) then (20000 : Int) else (↑(lenT data) : Int)) && decide ((if (20000 : Int) < (↑(lenT data) : Int) then (20000 : Int) else (↑(lenT data) : Int)) ≤ (↑(lenT data) : Int)) then bif (lenT (List.take ((if (5000 : Int) < (↑cs.length : Int) then (5000 : Int) else (↑cs.length : Int)).toNat * 1) (List.drop 0 (u32s cs)))).beq ((if (5000 : Int) < (↑cs.length : Int) then (5000 : Int) else (↑cs.length : Int)).toNat * 1) && oneC (List.take ((if (5000 : Int) < (↑cs.length : Int) then (5000 : Int) else (↑cs.length : Int)).toNat * 1) (List.drop 0 (u32s cs))) && ((0 + (if (5000 : Int) < (↑cs.length : Int) then (5000 : Int) else (↑cs.length : Int)).toNat) * 4).ble 1099511627776 && (0 + (if (5000 : Int) < (↑cs.length : Int) then (5000 : Int) else (↑cs.length : Int)).toNat).blt 4611686018427387904 then bif hasN (0 + (if (5000 : Int) < (↑cs.length : Int) then (5000 : Int) else (↑cs.length : Int)).toNat * 1) (u32s cs) then bif decide ((0 : Int) ≤ if (5000 : Int) < (↑cs.length : Int) then (5000 : Int) else (↑cs.length : Int)) && decide ((if (5000 : Int) < (↑cs.length : Int) then (5000 : Int) else (↑cs.length : Int)) ≤ (↑cs.length : Int)) then True else False else False else False else False : St }) := by kernel_rfl
theorem own_lee (pages : Int) (stack : Int) (types : Int) (data : List UInt8) (cs : List Nat) (rs : List Rl) (starts : List Nat) : evF Try.prog noBase noLoop 100 10 9 [Value.agg { toList := [Value.int IntKind.i64 pages, Value.int IntKind.i64 stack, Value.int IntKind.i64 types, Value.slice (some { block := 64, off := 0 }) cs.length (big + 64), Value.string { data := { toList := data : Array UInt8 } : ByteArray }, Value.slice (some { block := 65, off := 0, spot := some 65 }) 0 (big + 65), Value.slice (some { block := 66, off := 0, spot := some 66 }) 0 (big + 66)] }] { n := 67, h := [(64, { rw := false, op := some (0, 0), cells := u32s cs, it := none : Sy.Blk })], lo := [(64, cs.length), (65, 0), (66, 0)], esc := 0, T := [], k := 0, O := True : St } = some (Value.agg { toList := [Value.int IntKind.i64 pages, Value.int IntKind.i64 stack, Value.int IntKind.i64 types, Value.slice (some { block := 70, off := 0 }) (0 + (if (5000 : Int) < (↑cs.length : Int) then (5000 : Int) else (↑cs.length : Int)).toNat) 9223372036854775878, Value.string { data := { toList := List.take ((if (20000 : Int) < (↑(lenT data) : Int) then (20000 : Int) else (↑(lenT data) : Int)).toNat - 0) (List.drop 0 data) : Array UInt8 } : ByteArray }, Value.slice (some { block := 72, off := 0 }) 0 9223372036854775880, Value.slice (some { block := 74, off := 0 }) 0 9223372036854775882] }, { n := 75, h := [(74, { rw := true, op := some (74, 1), cells := [], it := none : Sy.Blk }), (72, { rw := true, op := some (72, 6), cells := [], it := none : Sy.Blk }), (70, { rw := true, op := some (70, 1), cells := List.take ((if (5000 : Int) < (↑cs.length : Int) then (5000 : Int) else (↑cs.length : Int)).toNat * 1) (List.drop 0 (u32s cs)), it := none : Sy.Blk }), (68, { rw := true, op := none, cells := [Value.int IntKind.i64 pages, Value.int IntKind.i64 stack, Value.int IntKind.i64 types, Value.slice (some { block := 70, off := 0 }) (0 + (if (5000 : Int) < (↑cs.length : Int) then (5000 : Int) else (↑cs.length : Int)).toNat) 9223372036854775878, Value.string { data := { toList := List.take ((if (20000 : Int) < (↑(lenT data) : Int) then (20000 : Int) else (↑(lenT data) : Int)).toNat - 0) (List.drop 0 data) : Array UInt8 } : ByteArray }, Value.slice (some { block := 72, off := 0 }) 0 9223372036854775880, Value.slice (some { block := 74, off := 0 }) 0 9223372036854775882], it := none : Sy.Blk }), (67, { rw := true, op := none, cells := [Value.int IntKind.i64 pages, Value.int IntKind.i64 stack, Value.int IntKind.i64 types, Value.slice (some { block := 70, off := 0 }) (0 + (if (5000 : Int) < (↑cs.length : Int) then (5000 : Int) else (↑cs.length : Int)).toNat) 9223372036854775878, Value.string { data := { toList := List.take ((if (20000 : Int) < (↑(lenT data) : Int) then (20000 : Int) else (↑(lenT data) : Int)).toNat - 0) (List.drop 0 data) : Array UInt8 } : ByteArray }, Value.slice (some { block := 72, off := 0 }) 0 9223372036854775880, Value.slice (some { block := 74, off := 0 }) 0 9223372036854775882], it := none : Sy.Blk }), (64, { rw := false, op := some (0, 0), cells := u32s cs, it := none : Sy.Blk })], lo := [(74, 0), (72, 0), (70, 0 + (if (5000 : Int) < (↑cs.length : Int) then (5000 : Int) else (↑cs.length : Int)).toNat), (64, cs.length), (65, 0), (66, 0)], esc := 0, T := [], k := 0, O := bif decide ((0 : Int) ≤ if (20000 : Int) < (↑(lenT data) : Int) then (20000 : Int) else (↑(lenT data) : Int)) && decide ((if (20000 : Int) < (↑(lenT data) : Int) then (20000 : Int) else (↑(lenT data) : Int)) ≤ (↑(lenT data) : Int)) then bif (lenT (List.take ((if (5000 : Int) < (↑cs.length : Int) then (5000 : Int) else (↑cs.length : Int)).toNat * 1) (List.drop 0 (u32s cs)))).beq ((if (5000 : Int) < (↑cs.length : Int) then (5000 : Int) else (↑cs.length : Int)).toNat * 1) && oneC (List.take ((if (5000 : Int) < (↑cs.length : Int) then (5000 : Int) else (↑cs.length : Int)).toNat * 1) (List.drop 0 (u32s cs))) && ((0 + (if (5000 : Int) < (↑cs.length : Int) then (5000 : Int) else (↑cs.length : Int)).toNat) * 4).ble 1099511627776 && (0 + (if (5000 : Int) < (↑cs.length : Int) then (5000 : Int) else (↑cs.length : Int)).toNat).blt 4611686018427387904 then bif hasN (0 + (if (5000 : Int) < (↑cs.length : Int) then (5000 : Int) else (↑cs.length : Int)).toNat * 1) (u32s cs) then bif decide ((0 : Int) ≤ if (5000 : Int) < (↑cs.length : Int) then (5000 : Int) else (↑cs.length : Int)) && decide ((if (5000 : Int) < (↑cs.length : Int) then (5000 : Int) else (↑cs.length : Int)) ≤ (↑cs.length : Int)) then True else False else False else False else False : St }) := by kernel_rfl
theorem own_lel (pages : Int) (stack : Int) (types : Int) (data : List UInt8) (cs : List Nat) (rs : List Rl) (starts : List Nat) : evF Try.prog noBase noLoop 100 10 9 [Value.agg { toList := [Value.int IntKind.i64 pages, Value.int IntKind.i64 stack, Value.int IntKind.i64 types, Value.slice (some { block := 64, off := 0 }) cs.length (big + 64), Value.string { data := { toList := data : Array UInt8 } : ByteArray }, Value.slice (some { block := 65, off := 0, spot := some 65 }) 0 (big + 65), Value.slice (some { block := 66, off := 0 }) starts.length (big + 66)] }] { n := 67, h := [(64, { rw := false, op := some (0, 0), cells := u32s cs, it := none : Sy.Blk }), (66, { rw := false, op := some (0, 0), cells := u32s starts, it := none : Sy.Blk })], lo := [(64, cs.length), (65, 0), (66, starts.length)], esc := 0, T := [], k := 0, O := True : St } = some (Value.agg { toList := [Value.int IntKind.i64 pages, Value.int IntKind.i64 stack, Value.int IntKind.i64 types, Value.slice (some { block := 70, off := 0 }) (0 + (if (5000 : Int) < (↑cs.length : Int) then (5000 : Int) else (↑cs.length : Int)).toNat) 9223372036854775878, Value.string { data := { toList := List.take ((if (20000 : Int) < (↑(lenT data) : Int) then (20000 : Int) else (↑(lenT data) : Int)).toNat - 0) (List.drop 0 data) : Array UInt8 } : ByteArray }, Value.slice (some { block := 72, off := 0 }) 0 9223372036854775880, Value.slice (some { block := 74, off := 0 }) (0 + (if (6 : Int) < (↑starts.length : Int) then (6 : Int) else (↑starts.length : Int)).toNat) 9223372036854775882] }, { n := 75, h := [(74, { rw := true, op := some (74, 1), cells := List.take ((if (6 : Int) < (↑starts.length : Int) then (6 : Int) else (↑starts.length : Int)).toNat * 1) (List.drop 0 (u32s starts)), it := none : Sy.Blk }), (72, { rw := true, op := some (72, 6), cells := [], it := none : Sy.Blk }), (70, { rw := true, op := some (70, 1), cells := List.take ((if (5000 : Int) < (↑cs.length : Int) then (5000 : Int) else (↑cs.length : Int)).toNat * 1) (List.drop 0 (u32s cs)), it := none : Sy.Blk }), (68, { rw := true, op := none, cells := [Value.int IntKind.i64 pages, Value.int IntKind.i64 stack, Value.int IntKind.i64 types, Value.slice (some { block := 70, off := 0 }) (0 + (if (5000 : Int) < (↑cs.length : Int) then (5000 : Int) else (↑cs.length : Int)).toNat) 9223372036854775878, Value.string { data := { toList := List.take ((if (20000 : Int) < (↑(lenT data) : Int) then (20000 : Int) else (↑(lenT data) : Int)).toNat - 0) (List.drop 0 data) : Array UInt8 } : ByteArray }, Value.slice (some { block := 72, off := 0 }) 0 9223372036854775880, Value.slice (some { block := 74, off := 0 }) (0 + (if (6 : Int) < (↑starts.length : Int) then (6 : Int) else (↑starts.length : Int)).toNat) 9223372036854775882], it := none : Sy.Blk }), (67, { rw := true, op := none, cells := [Value.int IntKind.i64 pages, Value.int IntKind.i64 stack, Value.int IntKind.i64 types, Value.slice (some { block := 70, off := 0 }) (0 + (if (5000 : Int) < (↑cs.length : Int) then (5000 : Int) else (↑cs.length : Int)).toNat) 9223372036854775878, Value.string { data := { toList := List.take ((if (20000 : Int) < (↑(lenT data) : Int) then (20000 : Int) else (↑(lenT data) : Int)).toNat - 0) (List.drop 0 data) : Array UInt8 } : ByteArray }, Value.slice (some { block := 72, off := 0 }) 0 9223372036854775880, Value.slice (some { block := 74, off := 0 }) (0 + (if (6 : Int) < (↑starts.length : Int) then (6 : Int) else (↑starts.length : Int)).toNat) 9223372036854775882], it := none : Sy.Blk }), (64, { rw := false, op := some (0, 0), cells := u32s cs, it := none : Sy.Blk }), (66, { rw := false, op := some (0, 0), cells := u32s starts, it := none : Sy.Blk })], lo := [(74, 0 + (if (6 : Int) < (↑starts.length : Int) then (6 : Int) else (↑starts.length : Int)).toNat), (72, 0), (70, 0 + (if (5000 : Int) < (↑cs.length : Int) then (5000 : Int) else (↑cs.length : Int)).toNat), (64, cs.length), (65, 0), (66, starts.length)], esc := 0, T := [], k := 0, O := bif (lenT (List.take ((if (6 : Int) < (↑starts.length : Int) then (6 : Int) else (↑starts.length : Int)).toNat * 1) (List.drop 0 (u32s starts)))).beq ((if (6 : Int) < (↑starts.length : Int) then (6 : Int) else (↑starts.length : Int)).toNat * 1) && oneC (List.take ((if (6 : Int) < (↑starts.length : Int) then (6 : Int) else (↑starts.length : Int)).toNat * 1) (List.drop 0 (u32s starts))) && ((0 + (if (6 : Int) < (↑starts.length : Int) then (6 : Int) else (↑starts.length : Int)).toNat) * 4).ble 1099511627776 && (0 + (if (6 : Int) < (↑starts.length : Int) then (6 : Int) else (↑starts.length : Int)).toNat).blt 4611686018427387904 then bif hasN (0 + (if (6 : Int) < (↑starts.length : Int) then (6 : Int) else (↑starts.length : Int)).toNat * 1) (u32s starts) then bif decide ((0 : Int) ≤ if (6 : Int) < (↑starts.length : Int) then (6 : Int) else (↑starts.length : Int)) && decide ((if (6 : Int) < (↑starts.length : Int) then (6 : Int) else (↑starts.length : Int)) ≤ (↑starts.length : Int)) then bif decide ((0 : Int) ≤ if (20000 : Int) < (↑(lenT data) : Int) then (20000 : Int) else (↑(lenT data) : Int)) && decide ((if (20000 : Int) < (↑(lenT data) : Int) then (20000 : Int) else (↑(lenT data) : Int)) ≤ (↑(lenT data) : Int)) then bif (lenT (List.take ((if (5000 : Int) < (↑cs.length : Int) then (5000 : Int) else (↑cs.length : Int)).toNat * 1) (List.drop 0 (u32s cs)))).beq ((if (5000 : Int) < (↑cs.length : Int) then (5000 : Int) else (↑cs.length : Int)).toNat * 1) && oneC (List.take ((if (5000 : Int) < (↑cs.length : Int) then (5000 : Int) else (↑cs.length : Int)).toNat * 1) (List.drop 0 (u32s cs))) && ((0 + (if (5000 : Int) < (↑cs.length : Int) then (5000 : Int) else (↑cs.length : Int)).toNat) * 4).ble 1099511627776 && (0 + (if (5000 : Int) < (↑cs.length : Int) then (5000 : Int) else (↑cs.length : Int)).toNat).blt 4611686018427387904 then bif hasN (0 + (if (5000 : Int) < (↑cs.length : Int) then (5000 : Int) else (↑cs.length : Int)).toNat * 1) (u32s cs) then bif decide ((0 : Int) ≤ if (5000 : Int) < (↑cs.length : Int) then (5000 : Int) else (↑cs.length : Int)) && decide ((if (5000 : Int) < (↑cs.length : Int) then (5000 : Int) else (↑cs.length : Int)) ≤ (↑cs.length : Int)) then True else False else False else False else False else False else False else False : St }) := by kernel_rfl
theorem own_lln (pages : Int) (stack : Int) (types : Int) (data : List UInt8) (cs : List Nat) (rs : List Rl) (starts : List Nat) : evF Try.prog noBase noLoop 100 10 9 [Value.agg { toList := [Value.int IntKind.i64 pages, Value.int IntKind.i64 stack, Value.int IntKind.i64 types, Value.slice (some { block := 64, off := 0 }) cs.length (big + 64), Value.string { data := { toList := data : Array UInt8 } : ByteArray }, Value.slice (some { block := 65, off := 0 }) rs.length (big + 65), Value.slice none 0 0] }] { n := 67, h := [(64, { rw := false, op := some (0, 0), cells := u32s cs, it := none : Sy.Blk }), (65, { rw := false, op := some (0, 0), cells := rels rs, it := none : Sy.Blk })], lo := [(64, cs.length), (65, rs.length), (66, 0)], esc := 0, T := [], k := 0, O := True : St } = some (Value.agg { toList := [Value.int IntKind.i64 pages, Value.int IntKind.i64 stack, Value.int IntKind.i64 types, Value.slice (some { block := 70, off := 0 }) (0 + (if (5000 : Int) < (↑cs.length : Int) then (5000 : Int) else (↑cs.length : Int)).toNat) 9223372036854775878, Value.string { data := { toList := List.take ((if (20000 : Int) < (↑(lenT data) : Int) then (20000 : Int) else (↑(lenT data) : Int)).toNat - 0) (List.drop 0 data) : Array UInt8 } : ByteArray }, Value.slice (some { block := 72, off := 0 }) (0 + (if (300 : Int) < (↑rs.length : Int) then (300 : Int) else (↑rs.length : Int)).toNat) 9223372036854775880, Value.slice (some { block := 74, off := 0 }) 0 9223372036854775882] }, { n := 75, h := [(74, { rw := true, op := some (74, 1), cells := [], it := none : Sy.Blk }), (72, { rw := true, op := some (72, 6), cells := List.take ((if (300 : Int) < (↑rs.length : Int) then (300 : Int) else (↑rs.length : Int)).toNat * 6) (List.drop 0 (rels rs)), it := none : Sy.Blk }), (70, { rw := true, op := some (70, 1), cells := List.take ((if (5000 : Int) < (↑cs.length : Int) then (5000 : Int) else (↑cs.length : Int)).toNat * 1) (List.drop 0 (u32s cs)), it := none : Sy.Blk }), (68, { rw := true, op := none, cells := [Value.int IntKind.i64 pages, Value.int IntKind.i64 stack, Value.int IntKind.i64 types, Value.slice (some { block := 70, off := 0 }) (0 + (if (5000 : Int) < (↑cs.length : Int) then (5000 : Int) else (↑cs.length : Int)).toNat) 9223372036854775878, Value.string { data := { toList := List.take ((if (20000 : Int) < (↑(lenT data) : Int) then (20000 : Int) else (↑(lenT data) : Int)).toNat - 0) (List.drop 0 data) : Array UInt8 } : ByteArray }, Value.slice (some { block := 72, off := 0 }) (0 + (if (300 : Int) < (↑rs.length : Int) then (300 : Int) else (↑rs.length : Int)).toNat) 9223372036854775880, Value.slice (some { block := 74, off := 0 }) 0 9223372036854775882], it := none : Sy.Blk }), (67, { rw := true, op := none, cells := [Value.int IntKind.i64 pages, Value.int IntKind.i64 stack, Value.int IntKind.i64 types, Value.slice (some { block := 70, off := 0 }) (0 + (if (5000 : Int) < (↑cs.length : Int) then (5000 : Int) else (↑cs.length : Int)).toNat) 9223372036854775878, Value.string { data := { toList := List.take ((if (20000 : Int) < (↑(lenT data) : Int) then (20000 : Int) else (↑(lenT data) : Int)).toNat - 0) (List.drop 0 data) : Array UInt8 } : ByteArray }, Value.slice (some { block := 72, off := 0 }) (0 + (if (300 : Int) < (↑rs.length : Int) then (300 : Int) else (↑rs.length : Int)).toNat) 9223372036854775880, Value.slice (some { block := 74, off := 0 }) 0 9223372036854775882], it := none : Sy.Blk }), (64, { rw := false, op := some (0, 0), cells := u32s cs, it := none : Sy.Blk }), (65, { rw := false, op := some (0, 0), cells := rels rs, it := none : Sy.Blk })], lo := [(74, 0), (72, 0 + (if (300 : Int) < (↑rs.length : Int) then (300 : Int) else (↑rs.length : Int)).toNat), (70, 0 + (if (5000 : Int) < (↑cs.length : Int) then (5000 : Int) else (↑cs.length : Int)).toNat), (64, cs.length), (65, rs.length), (66, 0)], esc := 0, T := [], k := 0, O := bif (lenT (List.take ((if (300 : Int) < (↑rs.length : Int) then (300 : Int) else (↑rs.length : Int)).toNat * 6) (List.drop 0 (rels rs)))).beq ((if (300 : Int) < (↑rs.length : Int) then (300 : Int) else (↑rs.length : Int)).toNat * 6) && oneC (List.take ((if (300 : Int) < (↑rs.length : Int) then (300 : Int) else (↑rs.length : Int)).toNat * 6) (List.drop 0 (rels rs))) && ((0 + (if (300 : Int) < (↑rs.length : Int) then (300 : Int) else (↑rs.length : Int)).toNat) * 20).ble 1099511627776 && (0 + (if (300 : Int) < (↑rs.length : Int) then (300 : Int) else (↑rs.length : Int)).toNat).blt 4611686018427387904 then bif hasN (0 + (if (300 : Int) < (↑rs.length : Int) then (300 : Int) else (↑rs.length : Int)).toNat * 6) (rels rs) then bif decide ((0 : Int) ≤ if (300 : Int) < (↑rs.length : Int) then (300 : Int) else (↑rs.length : Int)) && decide ((if (300 : Int) < (↑rs.length : Int) then (300 : Int) else (↑rs.length : Int)) ≤ (↑rs.length : Int)) then bif decide ((0 : Int) ≤ if (20000 : Int) < (↑(lenT data) : Int) then (20000 : Int) else (↑(lenT data) : Int)) && decide ((if (20000 : Int) < (↑(lenT data) : Int) then (20000 : Int) else (↑(lenT data) : Int)) ≤ (↑(lenT data) : Int)) then bif (lenT (List.take ((if (5000 : Int) < (↑cs.length : Int) then (5000 : Int) else (↑cs.length : Int)).toNat * 1) (List.drop 0 (u32s cs)))).beq ((if (5000 : Int) < (↑cs.length : Int) then (5000 : Int) else (↑cs.length : Int)).toNat * 1) && oneC (List.take ((if (5000 : Int) < (↑cs.length : Int) then (5000 : Int) else (↑cs.length : Int)).toNat * 1) (List.drop 0 (u32s cs))) && ((0 + (if (5000 : Int) < (↑cs.length : Int) then (5000 : Int) else (↑cs.length : Int)).toNat) * 4).ble 1099511627776 && (0 + (if (5000 : Int) < (↑cs.length : Int) then (5000 : Int) else (↑cs.length : Int)).toNat).blt 4611686018427387904 then bif hasN (0 + (if (5000 : Int) < (↑cs.length : Int) then (5000 : Int) else (↑cs.length : Int)).toNat * 1) (u32s cs) then bif decide ((0 : Int) ≤ if (5000 : Int) < (↑cs.length : Int) then (5000 : Int) else (↑cs.length : Int)) && decide ((if (5000 : Int) < (↑cs.length : Int) then (5000 : Int) else (↑cs.length : Int)) ≤ (↑cs.length : Int)) then True else False else False else False else False else False else False else False : St }) := by kernel_rfl
theorem own_lle (pages : Int) (stack : Int) (types : Int) (data : List UInt8) (cs : List Nat) (rs : List Rl) (starts : List Nat) : evF Try.prog noBase noLoop 100 10 9 [Value.agg { toList := [Value.int IntKind.i64 pages, Value.int IntKind.i64 stack, Value.int IntKind.i64 types, Value.slice (some { block := 64, off := 0 }) cs.length (big + 64), Value.string { data := { toList := data : Array UInt8 } : ByteArray }, Value.slice (some { block := 65, off := 0 }) rs.length (big + 65), Value.slice (some { block := 66, off := 0, spot := some 66 }) 0 (big + 66)] }] { n := 67, h := [(64, { rw := false, op := some (0, 0), cells := u32s cs, it := none : Sy.Blk }), (65, { rw := false, op := some (0, 0), cells := rels rs, it := none : Sy.Blk })], lo := [(64, cs.length), (65, rs.length), (66, 0)], esc := 0, T := [], k := 0, O := True : St } = some (Value.agg { toList := [Value.int IntKind.i64 pages, Value.int IntKind.i64 stack, Value.int IntKind.i64 types, Value.slice (some { block := 70, off := 0 }) (0 + (if (5000 : Int) < (↑cs.length : Int) then (5000 : Int) else (↑cs.length : Int)).toNat) 9223372036854775878, Value.string { data := { toList := List.take ((if (20000 : Int) < (↑(lenT data) : Int) then (20000 : Int) else (↑(lenT data) : Int)).toNat - 0) (List.drop 0 data) : Array UInt8 } : ByteArray }, Value.slice (some { block := 72, off := 0 }) (0 + (if (300 : Int) < (↑rs.length : Int) then (300 : Int) else (↑rs.length : Int)).toNat) 9223372036854775880, Value.slice (some { block := 74, off := 0 }) 0 9223372036854775882] }, { n := 75, h := [(74, { rw := true, op := some (74, 1), cells := [], it := none : Sy.Blk }), (72, { rw := true, op := some (72, 6), cells := List.take ((if (300 : Int) < (↑rs.length : Int) then (300 : Int) else (↑rs.length : Int)).toNat * 6) (List.drop 0 (rels rs)), it := none : Sy.Blk }), (70, { rw := true, op := some (70, 1), cells := List.take ((if (5000 : Int) < (↑cs.length : Int) then (5000 : Int) else (↑cs.length : Int)).toNat * 1) (List.drop 0 (u32s cs)), it := none : Sy.Blk }), (68, { rw := true, op := none, cells := [Value.int IntKind.i64 pages, Value.int IntKind.i64 stack, Value.int IntKind.i64 types, Value.slice (some { block := 70, off := 0 }) (0 + (if (5000 : Int) < (↑cs.length : Int) then (5000 : Int) else (↑cs.length : Int)).toNat) 9223372036854775878, Value.string { data := { toList := List.take ((if (20000 : Int) < (↑(lenT data) : Int) then (20000 : Int) else (↑(lenT data) : Int)).toNat - 0) (List.drop 0 data) : Array UInt8 } : ByteArray }, Value.slice (some { block := 72, off := 0 }) (0 + (if (300 : Int) < (↑rs.length : Int) then (300 : Int) else (↑rs.length : Int)).toNat) 9223372036854775880, Value.slice (some { block := 74, off := 0 }) 0 9223372036854775882], it := none : Sy.Blk }), (67, { rw := true, op := none, cells := [Value.int IntKind.i64 pages, Value.int IntKind.i64 stack, Value.int IntKind.i64 types, Value.slice (some { block := 70, off := 0 }) (0 + (if (5000 : Int) < (↑cs.length : Int) then (5000 : Int) else (↑cs.length : Int)).toNat) 9223372036854775878, Value.string { data := { toList := List.take ((if (20000 : Int) < (↑(lenT data) : Int) then (20000 : Int) else (↑(lenT data) : Int)).toNat - 0) (List.drop 0 data) : Array UInt8 } : ByteArray }, Value.slice (some { block := 72, off := 0 }) (0 + (if (300 : Int) < (↑rs.length : Int) then (300 : Int) else (↑rs.length : Int)).toNat) 9223372036854775880, Value.slice (some { block := 74, off := 0 }) 0 9223372036854775882], it := none : Sy.Blk }), (64, { rw := false, op := some (0, 0), cells := u32s cs, it := none : Sy.Blk }), (65, { rw := false, op := some (0, 0), cells := rels rs, it := none : Sy.Blk })], lo := [(74, 0), (72, 0 + (if (300 : Int) < (↑rs.length : Int) then (300 : Int) else (↑rs.length : Int)).toNat), (70, 0 + (if (5000 : Int) < (↑cs.length : Int) then (5000 : Int) else (↑cs.length : Int)).toNat), (64, cs.length), (65, rs.length), (66, 0)], esc := 0, T := [], k := 0, O := bif (lenT (List.take ((if (300 : Int) < (↑rs.length : Int) then (300 : Int) else (↑rs.length : Int)).toNat * 6) (List.drop 0 (rels rs)))).beq ((if (300 : Int) < (↑rs.length : Int) then (300 : Int) else (↑rs.length : Int)).toNat * 6) && oneC (List.take ((if (300 : Int) < (↑rs.length : Int) then (300 : Int) else (↑rs.length : Int)).toNat * 6) (List.drop 0 (rels rs))) && ((0 + (if (300 : Int) < (↑rs.length : Int) then (300 : Int) else (↑rs.length : Int)).toNat) * 20).ble 1099511627776 && (0 + (if (300 : Int) < (↑rs.length : Int) then (300 : Int) else (↑rs.length : Int)).toNat).blt 4611686018427387904 then bif hasN (0 + (if (300 : Int) < (↑rs.length : Int) then (300 : Int) else (↑rs.length : Int)).toNat * 6) (rels rs) then bif decide ((0 : Int) ≤ if (300 : Int) < (↑rs.length : Int) then (300 : Int) else (↑rs.length : Int)) && decide ((if (300 : Int) < (↑rs.length : Int) then (300 : Int) else (↑rs.length : Int)) ≤ (↑rs.length : Int)) then bif decide ((0 : Int) ≤ if (20000 : Int) < (↑(lenT data) : Int) then (20000 : Int) else (↑(lenT data) : Int)) && decide ((if (20000 : Int) < (↑(lenT data) : Int) then (20000 : Int) else (↑(lenT data) : Int)) ≤ (↑(lenT data) : Int)) then bif (lenT (List.take ((if (5000 : Int) < (↑cs.length : Int) then (5000 : Int) else (↑cs.length : Int)).toNat * 1) (List.drop 0 (u32s cs)))).beq ((if (5000 : Int) < (↑cs.length : Int) then (5000 : Int) else (↑cs.length : Int)).toNat * 1) && oneC (List.take ((if (5000 : Int) < (↑cs.length : Int) then (5000 : Int) else (↑cs.length : Int)).toNat * 1) (List.drop 0 (u32s cs))) && ((0 + (if (5000 : Int) < (↑cs.length : Int) then (5000 : Int) else (↑cs.length : Int)).toNat) * 4).ble 1099511627776 && (0 + (if (5000 : Int) < (↑cs.length : Int) then (5000 : Int) else (↑cs.length : Int)).toNat).blt 4611686018427387904 then bif hasN (0 + (if (5000 : Int) < (↑cs.length : Int) then (5000 : Int) else (↑cs.length : Int)).toNat * 1) (u32s cs) then bif decide ((0 : Int) ≤ if (5000 : Int) < (↑cs.length : Int) then (5000 : Int) else (↑cs.length : Int)) && decide ((if (5000 : Int) < (↑cs.length : Int) then (5000 : Int) else (↑cs.length : Int)) ≤ (↑cs.length : Int)) then True else False else False else False else False else False else False else False : St }) := by kernel_rfl
theorem own_lll (pages : Int) (stack : Int) (types : Int) (data : List UInt8) (cs : List Nat) (rs : List Rl) (starts : List Nat) : evF Try.prog noBase noLoop 100 10 9 [Value.agg { toList := [Value.int IntKind.i64 pages, Value.int IntKind.i64 stack, Value.int IntKind.i64 types, Value.slice (some { block := 64, off := 0 }) cs.length (big + 64), Value.string { data := { toList := data : Array UInt8 } : ByteArray }, Value.slice (some { block := 65, off := 0 }) rs.length (big + 65), Value.slice (some { block := 66, off := 0 }) starts.length (big + 66)] }] { n := 67, h := [(64, { rw := false, op := some (0, 0), cells := u32s cs, it := none : Sy.Blk }), (65, { rw := false, op := some (0, 0), cells := rels rs, it := none : Sy.Blk }), (66, { rw := false, op := some (0, 0), cells := u32s starts, it := none : Sy.Blk })], lo := [(64, cs.length), (65, rs.length), (66, starts.length)], esc := 0, T := [], k := 0, O := True : St } = some (Value.agg { toList := [Value.int IntKind.i64 pages, Value.int IntKind.i64 stack, Value.int IntKind.i64 types, Value.slice (some { block := 70, off := 0 }) (0 + (if (5000 : Int) < (↑cs.length : Int) then (5000 : Int) else (↑cs.length : Int)).toNat) 9223372036854775878, Value.string { data := { toList := List.take ((if (20000 : Int) < (↑(lenT data) : Int) then (20000 : Int) else (↑(lenT data) : Int)).toNat - 0) (List.drop 0 data) : Array UInt8 } : ByteArray }, Value.slice (some { block := 72, off := 0 }) (0 + (if (300 : Int) < (↑rs.length : Int) then (300 : Int) else (↑rs.length : Int)).toNat) 9223372036854775880, Value.slice (some { block := 74, off := 0 }) (0 + (if (6 : Int) < (↑starts.length : Int) then (6 : Int) else (↑starts.length : Int)).toNat) 9223372036854775882] }, { n := 75, h := [(74, { rw := true, op := some (74, 1), cells := List.take ((if (6 : Int) < (↑starts.length : Int) then (6 : Int) else (↑starts.length : Int)).toNat * 1) (List.drop 0 (u32s starts)), it := none : Sy.Blk }), (72, { rw := true, op := some (72, 6), cells := List.take ((if (300 : Int) < (↑rs.length : Int) then (300 : Int) else (↑rs.length : Int)).toNat * 6) (List.drop 0 (rels rs)), it := none : Sy.Blk }), (70, { rw := true, op := some (70, 1), cells := List.take ((if (5000 : Int) < (↑cs.length : Int) then (5000 : Int) else (↑cs.length : Int)).toNat * 1) (List.drop 0 (u32s cs)), it := none : Sy.Blk }), (68, { rw := true, op := none, cells := [Value.int IntKind.i64 pages, Value.int IntKind.i64 stack, Value.int IntKind.i64 types, Value.slice (some { block := 70, off := 0 }) (0 + (if (5000 : Int) < (↑cs.length : Int) then (5000 : Int) else (↑cs.length : Int)).toNat) 9223372036854775878, Value.string { data := { toList := List.take ((if (20000 : Int) < (↑(lenT data) : Int) then (20000 : Int) else (↑(lenT data) : Int)).toNat - 0) (List.drop 0 data) : Array UInt8 } : ByteArray }, Value.slice (some { block := 72, off := 0 }) (0 + (if (300 : Int) < (↑rs.length : Int) then (300 : Int) else (↑rs.length : Int)).toNat) 9223372036854775880, Value.slice (some { block := 74, off := 0 }) (0 + (if (6 : Int) < (↑starts.length : Int) then (6 : Int) else (↑starts.length : Int)).toNat) 9223372036854775882], it := none : Sy.Blk }), (67, { rw := true, op := none, cells := [Value.int IntKind.i64 pages, Value.int IntKind.i64 stack, Value.int IntKind.i64 types, Value.slice (some { block := 70, off := 0 }) (0 + (if (5000 : Int) < (↑cs.length : Int) then (5000 : Int) else (↑cs.length : Int)).toNat) 9223372036854775878, Value.string { data := { toList := List.take ((if (20000 : Int) < (↑(lenT data) : Int) then (20000 : Int) else (↑(lenT data) : Int)).toNat - 0) (List.drop 0 data) : Array UInt8 } : ByteArray }, Value.slice (some { block := 72, off := 0 }) (0 + (if (300 : Int) < (↑rs.length : Int) then (300 : Int) else (↑rs.length : Int)).toNat) 9223372036854775880, Value.slice (some { block := 74, off := 0 }) (0 + (if (6 : Int) < (↑starts.length : Int) then (6 : Int) else (↑starts.length : Int)).toNat) 9223372036854775882], it := none : Sy.Blk }), (64, { rw := false, op := some (0, 0), cells := u32s cs, it := none : Sy.Blk }), (65, { rw := false, op := some (0, 0), cells := rels rs, it := none : Sy.Blk }), (66, { rw := false, op := some (0, 0), cells := u32s starts, it := none : Sy.Blk })], lo := [(74, 0 + (if (6 : Int) < (↑starts.length : Int) then (6 : Int) else (↑starts.length : Int)).toNat), (72, 0 + (if (300 : Int) < (↑rs.length : Int) then (300 : Int) else (↑rs.length : Int)).toNat), (70, 0 + (if (5000 : Int) < (↑cs.length : Int) then (5000 : Int) else (↑cs.length : Int)).toNat), (64, cs.length), (65, rs.length), (66, starts.length)], esc := 0, T := [], k := 0, O := bif (lenT (List.take ((if (6 : Int) < (↑starts.length : Int) then (6 : Int) else (↑starts.length : Int)).toNat * 1) (List.drop 0 (u32s starts)))).beq ((if (6 : Int) < (↑starts.length : Int) then (6 : Int) else (↑starts.length : Int)).toNat * 1) && oneC (List.take ((if (6 : Int) < (↑starts.length : Int) then (6 : Int) else (↑starts.length : Int)).toNat * 1) (List.drop 0 (u32s starts))) && ((0 + (if (6 : Int) < (↑starts.length : Int) then (6 : Int) else (↑starts.length : Int)).toNat) * 4).ble 1099511627776 && (0 + (if (6 : Int) < (↑starts.length : Int) then (6 : Int) else (↑starts.length : Int)).toNat).blt 4611686018427387904 then bif hasN (0 + (if (6 : Int) < (↑starts.length : Int) then (6 : Int) else (↑starts.length : Int)).toNat * 1) (u32s starts) then bif decide ((0 : Int) ≤ if (6 : Int) < (↑starts.length : Int) then (6 : Int) else (↑starts.length : Int)) && decide ((if (6 : Int) < (↑starts.length : Int) then (6 : Int) else (↑starts.length : Int)) ≤ (↑starts.length : Int)) then bif (lenT (List.take ((if (300 : Int) < (↑rs.length : Int) then (300 : Int) else (↑rs.length : Int)).toNat * 6) (List.drop 0 (rels rs)))).beq ((if (300 : Int) < (↑rs.length : Int) then (300 : Int) else (↑rs.length : Int)).toNat * 6) && oneC (List.take ((if (300 : Int) < (↑rs.length : Int) then (300 : Int) else (↑rs.length : Int)).toNat * 6) (List.drop 0 (rels rs))) && ((0 + (if (300 : Int) < (↑rs.length : Int) then (300 : Int) else (↑rs.length : Int)).toNat) * 20).ble 1099511627776 && (0 + (if (300 : Int) < (↑rs.length : Int) then (300 : Int) else (↑rs.length : Int)).toNat).blt 4611686018427387904 then bif hasN (0 + (if (300 : Int) < (↑rs.length : Int) then (300 : Int) else (↑rs.length : Int)).toNat * 6) (rels rs) then bif decide ((0 : Int) ≤ if (300 : Int) < (↑rs.length : Int) then (300 : Int) else (↑rs.length : Int)) && decide ((if (300 : Int) < (↑rs.length : Int) then (300 : Int) else (↑rs.length : Int)) ≤ (↑rs.length : Int)) then bif decide ((0 : Int) ≤ if (20000 : Int) < (↑(lenT data) : Int) then (20000 : Int) else (↑(lenT data) : Int)) && decide ((if (20000 : Int) < (↑(lenT data) : Int) then (20000 : Int) else (↑(lenT data) : Int)) ≤ (↑(lenT data) : Int)) then bif (lenT (List.take ((if (5000 : Int) < (↑cs.length : Int) then (5000 : Int) else (↑cs.length : Int)).toNat * 1) (List.drop 0 (u32s cs)))).beq ((if (5000 : Int) < (↑cs.length : Int) then (5000 : Int) else (↑cs.length : Int)).toNat * 1) && oneC (List.take ((if (5000 : Int) < (↑cs.length : Int) then (5000 : Int) else (↑cs.length : Int)).toNat * 1) (List.drop 0 (u32s cs))) && ((0 + (if (5000 : Int) < (↑cs.length : Int) then (5000 : Int) else (↑cs.length : Int)).toNat) * 4).ble 1099511627776 && (0 + (if (5000 : Int) < (↑cs.length : Int) then (5000 : Int) else (↑cs.length : Int)).toNat).blt 4611686018427387904 then bif hasN (0 + (if (5000 : Int) < (↑cs.length : Int) then (5000 : Int) else (↑cs.length : Int)).toNat * 1) (u32s cs) then bif decide ((0 : Int) ≤ if (5000 : Int) < (↑cs.length : Int) then (5000 : Int) else (↑cs.length : Int)) && decide ((if (5000 : Int) < (↑cs.length : Int) then (5000 : Int) else (↑cs.length : Int)) ≤ (↑cs.length : Int)) then True else False else False else False else False else False else False else False else False else False else False : St }) := by kernel_rfl
theorem ichk_con (pages stack types : Int) (nc : Nat) (data : List UInt8) (rs : List Rl) (starts : List Nat) (hi : ImOk rs starts) : ConOk Try.prog 14 3 (imD pages stack types nc data rs starts (chkV pages stack types nc data rs starts)) := by
  refine (im_any (v' := chkV pages stack types nc data rs starts) (T := []) (run_ok i_names (baseR_ok (selLayAt_ok rs starts) (baseC_ok selK_ok)) (noLoop_ok _) 10) (ichk pages stack types nc data rs starts) rfl rfl rfl ?_).drop
  repeat' (with_reducible apply And.intro)
  all_goals first | exact hi | with_reducible trivial | with_reducible rfl | exact flat_all (rels_flat rs) | exact (flat_map (rels_flat rs)).symm | exact flat_all (u32s_flat starts) | exact (flat_map (u32s_flat starts)).symm
theorem err_zero (pages stack types : Int) (nc : Nat) (data : List UInt8) (rs : List Rl) (starts : List Nat) (he : errOf pages stack types nc data rs starts = 0) : layOk pages stack nc starts.length data.length ∧ layBig pages stack nc starts.length data.length = false ∧ isBad types nc data.length rs = false := by
  unfold errOf at he
  cases hl : isLong nc data.length rs.length starts.length <;> rw [hl] at he <;> try (simp at he; done)
  cases ha : isArg pages stack types nc starts.length <;> rw [ha] at he <;> try (simp at he; done)
  cases hf : isFar nc starts <;> rw [hf] at he <;> try (simp at he; done)
  cases hg : layBig pages stack nc starts.length data.length <;> rw [hg] at he <;> try (simp at he; done)
  cases hb : isBad types nc data.length rs <;> rw [hb] at he <;> try (simp at he; done)
  exact ⟨arg_lay hl ha, rfl, rfl⟩
theorem rlay_con (pages stack types : Int) (nc : Nat) (data : List UInt8) (rs : List Rl) (starts : List Nat) (hi : ImOk rs starts) : ConOk Try.prog 13 3 (imD pages stack types nc data rs starts (layRes pages stack types nc data rs starts)) := by
  have hr := run_ok (L := 100) i_names (baseR_ok (selLayAt_ok rs starts) (baseC_ok (d := 3) selK_ok)) (noLoop_ok _) 10
  by_cases he : errOf pages stack types nc data rs starts = 0
  · have h0 : (((errOf pages stack types nc data rs starts : Nat) : Int) != 0) = false := by rw [he]; rfl
    obtain ⟨hk, hg, _⟩ := err_zero pages stack types nc data rs starts he
    refine (im_any (v' := layRes pages stack types nc data rs starts) (T := [(0, false)]) hr (rlay_k pages stack types nc data rs starts) ?_ rfl rfl ?_).drop
    · unfold layRes layV; rw [he, hg]; rfl
    · repeat' (with_reducible apply And.intro)
      all_goals first | exact hi | exact hk.1 | exact hk.2.1 | exact hk.2.2.1 | exact hk.2.2.2.1 | exact hk.2.2.2.2.1 | exact hk.2.2.2.2.2.1 | exact hk.2.2.2.2.2.2.1 | exact hk.2.2.2.2.2.2.2 | exact h0 | with_reducible trivial | with_reducible rfl | exact flat_all (rels_flat rs) | exact (flat_map (rels_flat rs)).symm | exact flat_all (u32s_flat starts) | exact (flat_map (u32s_flat starts)).symm
  · have h0 : (((errOf pages stack types nc data rs starts : Nat) : Int) != 0) = true := by simp; omega
    have hz : ∀ x, pe (errOf pages stack types nc data rs starts) x = 0 := beq_ne he
    refine (im_any (v' := layRes pages stack types nc data rs starts) (T := [(0, true)]) hr (rlay_e pages stack types nc data rs starts) ?_ rfl rfl ?_).drop
    · unfold layRes layV; rw [hz, hz, hz, hz, hz, hz]
    · repeat' (with_reducible apply And.intro)
      all_goals first | exact hi | exact h0 | with_reducible trivial | with_reducible rfl | exact flat_all (rels_flat rs) | exact (flat_map (rels_flat rs)).symm | exact flat_all (u32s_flat starts) | exact (flat_map (u32s_flat starts)).symm
theorem works_run : RunY Try.prog 1000 30 11 = True := by kernel_rfl
theorem works_ok : ConOk Try.prog 11 3 (Con.pure [] (.bool true)) := runY_con i_names (by kernel_rfl) works_run
def selWk : SelC := fun f args _ =>
  match args with
  | [] => bif Nat.beq f 11 then some (Con.pure [] (.bool true), [], True) else none
  | _ => none
theorem selWk_ok : SelOk Try.prog 3 selWk := by
  intro f args s c ρ q h hq
  unfold selWk at h
  split at h
  · obtain ⟨h2, h⟩ := bif_some h
    have h2 := Nat.eq_of_beq_eq_true h2
    subst h2
    cases h
    exact works_ok
  · cases h
end Go.Proofs.Ytdljpnebpoaeiaa
namespace Go.Proofs.Ytdljpnebpoaeiaa
set_option linter.unusedVariables false
set_option linter.unusedSimpArgs false
open Go.RowKit
open Sy
set_option linter.unusedSimpArgs false
theorem take_u32s (n : Nat) (xs : List Nat) : List.take n (u32s xs) = u32s (xs.take n) := by unfold u32s; rw [List.map_take]
theorem take_rels : ∀ (n : Nat) (rs : List Rl), List.take (n * 6) (rels rs) = rels (rs.take n)
  | 0, rs => by simp [rels]
  | n + 1, [] => by simp [rels]
  | n + 1, x :: rs => by
    rw [rels_cons, List.take_succ_cons, rels_cons, List.take_append, List.take_of_length_le (by simp only [relC, List.length_cons, List.length_nil]; omega), show (relC x).length = 6 from rfl, show (n + 1) * 6 - 6 = n * 6 by omega, take_rels n rs]
theorem oneC_flat : ∀ {l : List Value}, (∀ v ∈ l, flat0 v = true) → oneC l = true
  | [], _ => rfl
  | v :: l, h => by
    have h1 := flat0_oneCell (h v (List.mem_cons_self ..))
    have h2 := oneC_flat fun u hu => h u (List.mem_cons_of_mem _ hu)
    unfold oneC at *
    simp only [List.all_cons, Bool.and_eq_true]
    exact ⟨h1, h2⟩
theorem cut_len {α : Type} (m : Nat) (l : List α) : (if ((m : Nat) : Int) < (l.length : Int) then ((m : Nat) : Int) else (l.length : Int)) = (((l.take m).length : Nat) : Int) := by
  rw [List.length_take]; split <;> omega
theorem take_take_len {α : Type} (m : Nat) (l : List α) : l.take (l.take m).length = l.take m := by
  rw [List.length_take, List.take_eq_take_iff]; omega
theorem ble_true {a b : Nat} (h : a ≤ b) : a.ble b = true := Nat.ble_eq_true_of_le h
theorem blt_true {a b : Nat} (h : a < b) : a.blt b = true := (Nat.blt_eq).mpr h
theorem occ1 (cs : List Nat) : (if (5000 : Int) < (cs.length : Int) then (5000 : Int) else (cs.length : Int)) = (((cs.take 5000).length : Nat) : Int) := cut_len 5000 cs
theorem occ2 (cs : List Nat) : List.take (cs.take 5000).length (u32s cs) = u32s (cs.take 5000) := by rw [take_u32s, take_take_len]
theorem occ3 (cs : List Nat) : (u32s (cs.take 5000)).length.beq (cs.take 5000).length = true := by rw [show (u32s (cs.take 5000)).length = (cs.take 5000).length from by simp [u32s]]; exact Nat.beq_refl _
theorem occ7 (cs : List Nat) : hasN (cs.take 5000).length (u32s cs) = true := by rw [u32s_has, decide_eq_true_eq, List.length_take]; omega
theorem occ4 (cs : List Nat) : oneC (u32s (cs.take 5000)) = true := oneC_flat (u32s_flat _)
theorem occ5 (cs : List Nat) : ((cs.take 5000).length * 4).ble 1099511627776 = true := ble_true (by rw [List.length_take]; omega)
theorem occ6 (cs : List Nat) : (cs.take 5000).length.blt 4611686018427387904 = true := blt_true (by rw [List.length_take]; omega)
theorem occ8 (cs : List Nat) : decide ((0 : Int) ≤ (((cs.take 5000).length : Nat) : Int)) = true := by simp
theorem occ9 (cs : List Nat) : decide ((((cs.take 5000).length : Nat) : Int) ≤ ((cs.length : Nat) : Int)) = true := by rw [decide_eq_true_eq, List.length_take]; omega
theorem ocr1 (rs : List Rl) : (if (300 : Int) < (rs.length : Int) then (300 : Int) else (rs.length : Int)) = (((rs.take 300).length : Nat) : Int) := cut_len 300 rs
theorem ocr2 (rs : List Rl) : List.take ((rs.take 300).length * 6) (rels rs) = rels (rs.take 300) := by rw [take_rels, take_take_len]
theorem ocr3 (rs : List Rl) : (rels (rs.take 300)).length.beq ((rs.take 300).length * 6) = true := by rw [rels_len]; exact Nat.beq_refl _
theorem ocr7 (rs : List Rl) : hasN ((rs.take 300).length * 6) (rels rs) = true := by rw [rels_has, decide_eq_true_eq, List.length_take]; omega
theorem ocr4 (rs : List Rl) : oneC (rels (rs.take 300)) = true := oneC_flat (rels_flat _)
theorem ocr5 (rs : List Rl) : ((rs.take 300).length * 20).ble 1099511627776 = true := ble_true (by rw [List.length_take]; omega)
theorem ocr6 (rs : List Rl) : (rs.take 300).length.blt 4611686018427387904 = true := blt_true (by rw [List.length_take]; omega)
theorem ocr8 (rs : List Rl) : decide ((0 : Int) ≤ (((rs.take 300).length : Nat) : Int)) = true := by simp
theorem ocr9 (rs : List Rl) : decide ((((rs.take 300).length : Nat) : Int) ≤ ((rs.length : Nat) : Int)) = true := by rw [decide_eq_true_eq, List.length_take]; omega
theorem ocs1 (starts : List Nat) : (if (6 : Int) < (starts.length : Int) then (6 : Int) else (starts.length : Int)) = (((starts.take 6).length : Nat) : Int) := cut_len 6 starts
theorem ocs2 (starts : List Nat) : List.take (starts.take 6).length (u32s starts) = u32s (starts.take 6) := by rw [take_u32s, take_take_len]
theorem ocs3 (starts : List Nat) : (u32s (starts.take 6)).length.beq (starts.take 6).length = true := by rw [show (u32s (starts.take 6)).length = (starts.take 6).length from by simp [u32s]]; exact Nat.beq_refl _
theorem ocs7 (starts : List Nat) : hasN (starts.take 6).length (u32s starts) = true := by rw [u32s_has, decide_eq_true_eq, List.length_take]; omega
theorem ocs4 (starts : List Nat) : oneC (u32s (starts.take 6)) = true := oneC_flat (u32s_flat _)
theorem ocs5 (starts : List Nat) : ((starts.take 6).length * 4).ble 1099511627776 = true := ble_true (by rw [List.length_take]; omega)
theorem ocs6 (starts : List Nat) : (starts.take 6).length.blt 4611686018427387904 = true := blt_true (by rw [List.length_take]; omega)
theorem ocs8 (starts : List Nat) : decide ((0 : Int) ≤ (((starts.take 6).length : Nat) : Int)) = true := by simp
theorem ocs9 (starts : List Nat) : decide ((((starts.take 6).length : Nat) : Int) ≤ ((starts.length : Nat) : Int)) = true := by rw [decide_eq_true_eq, List.length_take]; omega
theorem ocd1 (data : List UInt8) : (if (20000 : Int) < (data.length : Int) then (20000 : Int) else (data.length : Int)) = (((data.take 20000).length : Nat) : Int) := cut_len 20000 data
theorem ocd2 (data : List UInt8) : List.take (data.take 20000).length data = data.take 20000 := take_take_len _ _
theorem ocd8 (data : List UInt8) : decide ((0 : Int) ≤ (((data.take 20000).length : Nat) : Int)) = true := by simp
theorem ocd9 (data : List UInt8) : decide ((((data.take 20000).length : Nat) : Int) ≤ ((data.length : Nat) : Int)) = true := by rw [decide_eq_true_eq, List.length_take]; omega
def sl (k : Nat) (g n : Nat) : Value := match k with | 0 => .slice none 0 0 | 1 => .slice (some ⟨g, 0, some g⟩) 0 (big + g) | _ => .slice (some ⟨g, 0, none⟩) n (big + g)
def slH (k : Nat) (g : Nat) (cells : List Value) : Sy.Heap := match k with | 0 => [] | 1 => [] | _ => [(g, ⟨false, some (0, 0), cells, none⟩)]
def slOk (k n : Nat) : Prop := k ≤ 2 ∧ (k < 2 → n = 0)
def inV (i j k : Nat) (pages stack types : Int) (data : List UInt8) (cs : List Nat) (rs : List Rl) (starts : List Nat) : Value :=
  .agg ⟨[.int .i64 pages, .int .i64 stack, .int .i64 types, sl i 64 cs.length, .string ⟨⟨data⟩⟩, sl j 65 rs.length, sl k 66 starts.length]⟩
def inH (i j k : Nat) (cs : List Nat) (rs : List Rl) (starts : List Nat) : Sy.Heap := slH i 64 (u32s cs) ++ slH j 65 (rels rs) ++ slH k 66 (u32s starts)
def inLo (cs : List Nat) (rs : List Rl) (starts : List Nat) : List (Nat × Nat) := [(64, cs.length), (65, rs.length), (66, starts.length)]
def ownV (pages stack types : Int) (data : List UInt8) (cs : List Nat) (rs : List Rl) (starts : List Nat) (a b c : Nat) : Value :=
  .agg ⟨[.int .i64 pages, .int .i64 stack, .int .i64 types, .slice (some ⟨a, 0, none⟩) (cs.take 5000).length (big + a), .string ⟨⟨data.take 20000⟩⟩, .slice (some ⟨b, 0, none⟩) (rs.take 300).length (big + b), .slice (some ⟨c, 0, none⟩) (starts.take 6).length (big + c)]⟩
def ownH (cs : List Nat) (rs : List Rl) (starts : List Nat) (a b c : Nat) : Sy.Heap := [(c, ⟨true, some (c, 1), u32s (starts.take 6), none⟩), (b, ⟨true, some (b, 6), rels (rs.take 300), none⟩), (a, ⟨true, some (a, 1), u32s (cs.take 5000), none⟩)]
def ownC (v : Value) (h : Sy.Heap) (pages stack types : Int) (data : List UInt8) (cs : List Nat) (rs : List Rl) (starts : List Nat) : Con :=
  ⟨[v], 67, h, inLo cs rs starts, ownV pages stack types data cs rs starts 67 68 69, 70, ownH cs rs starts 67 68 69, []⟩
def loD (cs : List Nat) (rs : List Rl) (starts : List Nat) (a b c : Nat) : List (Nat × Nat) := [(a, (cs.take 5000).length), (b, (rs.take 300).length), (c, (starts.take 6).length)]
def ownD (v : Value) (h : Sy.Heap) (pages stack types : Int) (data : List UInt8) (cs : List Nat) (rs : List Rl) (starts : List Nat) : Con :=
  ⟨[v], 67, h, inLo cs rs starts, ownV pages stack types data cs rs starts 67 68 69, 70, ownH cs rs starts 67 68 69, loD cs rs starts 67 68 69⟩
def owσ (l : Nat) : Nat := if l = 67 then 70 else if l = 68 then 72 else if l = 69 then 74 else l
theorem okH_append {q : Nat → Bool} : ∀ {a b : Sy.Heap}, OkH q a → OkH q b → OkH q (a ++ b)
  | [], _, _, h => h
  | _ :: _, _, h1, h2 => ⟨h1.1, okH_append h1.2 h2⟩
theorem slH_ok {q : Nat → Bool} (k : Nat) {g : Nat} {cells : List Value} (h1 : q g = true) (h2 : q 0 = true) (h3 : ∀ v ∈ cells, flat0 v = true) : OkH q (slH k g cells) := by
  unfold slH
  split
  · trivial
  · trivial
  · exact ⟨⟨h1, h2, flat_bnd h3⟩, trivial⟩
theorem in_wf (i j k : Nat) (pages stack types : Int) (data : List UInt8) (cs : List Nat) (rs : List Rl) (starts : List Nat) (hi : i ≤ 2) (hj : j ≤ 2) (hk : k ≤ 2) : (ownD (inV i j k pages stack types data cs rs starts) (inH i j k cs rs starts) pages stack types data cs rs starts).Wf 3 := by
  have h1 : OkH (fun l => Nat.blt l 67) (inH i j k cs rs starts) := okH_append (okH_append (slH_ok i (by decide) (by decide) (u32s_flat cs)) (slH_ok j (by decide) (by decide) (rels_flat rs))) (slH_ok k (by decide) (by decide) (u32s_flat starts))
  refine ⟨by show NG ≤ 67; decide, by show 67 ≤ 70; omega, h1, rfl, rfl, rfl, ?_, by kernel_rfl, fun x hx v hv => ?_⟩
  · obtain rfl | rfl | rfl : i = 0 ∨ i = 1 ∨ i = 2 := by omega
    all_goals obtain rfl | rfl | rfl : j = 0 ∨ j = 1 ∨ j = 2 := by omega
    all_goals obtain rfl | rfl | rfl : k = 0 ∨ k = 1 ∨ k = 2 := by omega
    all_goals kernel_rfl
  · simp only [ownD, ownH, List.mem_cons, List.not_mem_nil, or_false] at hx
    rcases hx with rfl | rfl | rfl
    · exact okV_flat0 (u32s_flat _ v hv) 3
    · exact okV_flat0 (rels_flat _ v hv) 3
    · exact okV_flat0 (u32s_flat _ v hv) 3
theorem own_any {i j k : Nat} {pages stack types : Int} {data : List UInt8} {cs : List Nat} {rs : List Rl} {starts : List Nat} {b1 b2 : Nat × Sy.Blk} {lo' : List (Nat × Nat)} {q : Prop}
    (h : evF Try.prog noBase noLoop 100 10 9 [inV i j k pages stack types data cs rs starts] ⟨67, inH i j k cs rs starts, inLo cs rs starts, 0, [], 0, True⟩ = some (ownV pages stack types data cs rs starts 70 72 74, ⟨75, (ownH cs rs starts 70 72 74) ++ b1 :: b2 :: inH i j k cs rs starts, lo', 0, [], 0, q⟩))
    (hq : q) (hl : SeenO (fun l => Nat.blt l 70) owσ lo' (loD cs rs starts 67 68 69)) (hi : i ≤ 2) (hj : j ≤ 2) (hk : k ≤ 2) : ConOk Try.prog 9 3 (ownD (inV i j k pages stack types data cs rs starts) (inH i j k cs rs starts) pages stack types data cs rs starts) := by
  refine conOk_run (run_ok (L := 100) i_names (noBase_ok _) (noLoop_ok _) 10) (in_wf i j k pages stack types data cs rs starts hi hj hk) (T := []) (p := fun l => Nat.blt l 70) (σ := owσ) h hq ?_
  refine ⟨fun l hl => ?_, ⟨⟨rfl, flat_all (u32s_flat _), rfl, rfl, rfl, trivial, (flat_map (u32s_flat _)).symm⟩, ⟨rfl, flat_all (rels_flat _), rfl, rfl, rfl, trivial, (flat_map (rels_flat _)).symm⟩, ⟨rfl, flat_all (u32s_flat _), rfl, rfl, rfl, trivial, (flat_map (u32s_flat _)).symm⟩, trivial⟩, rfl, hl, ⟨by kernel_rfl, by kernel_rfl⟩, rfl, ⟨⟨rfl, rfl, flat_bnd (u32s_flat _)⟩, ⟨rfl, rfl, flat_bnd (rels_flat _)⟩, ⟨rfl, rfl, flat_bnd (u32s_flat _)⟩, trivial⟩, rfl, okV_bnd 3 _ (show okV (keeps 67 70 owσ (fun l => Nat.blt l 70)) 3 (ownV pages stack types data cs rs starts 67 68 69) = true from by kernel_rfl), fun x hx hrw => ?_⟩
  · have : NG ≤ 67 := by decide
    unfold owσ
    rw [if_neg (by omega), if_neg (by omega), if_neg (by omega)]
  · simp only [ownD, ownH, List.mem_cons, List.not_mem_nil, or_false] at hx
    rcases hx with rfl | rfl | rfl <;> cases hrw
theorem nil_of {α : Type} {l : List α} (h : l.length = 0) : l = [] := List.eq_nil_of_length_eq_zero h
theorem own_conD (i j k : Nat) (pages stack types : Int) (data : List UInt8) (cs : List Nat) (rs : List Rl) (starts : List Nat) (hi : slOk i cs.length) (hj : slOk j rs.length) (hk : slOk k starts.length) :
    ConOk Try.prog 9 3 (ownD (inV i j k pages stack types data cs rs starts) (inH i j k cs rs starts) pages stack types data cs rs starts) := by
  obtain ⟨hi, ei⟩ := hi
  obtain ⟨hj, ej⟩ := hj
  obtain ⟨hk, ek⟩ := hk
  obtain rfl | rfl | rfl : i = 0 ∨ i = 1 ∨ i = 2 := by omega
  · obtain rfl := nil_of (ei (by omega))
    obtain rfl | rfl | rfl : j = 0 ∨ j = 1 ∨ j = 2 := by omega
    · obtain rfl := nil_of (ej (by omega))
      obtain rfl | rfl | rfl : k = 0 ∨ k = 1 ∨ k = 2 := by omega
      · obtain rfl := nil_of (ek (by omega))
        have hh := own_nnn pages stack types data [] [] []
        simp only [lenT_eq, List.drop_zero, Nat.zero_add, Nat.sub_zero, Nat.mul_one, Int.toNat_natCast, ocd1, ocd2, ocd8, ocd9, Bool.and_self, cond_true] at hh
        exact own_any hh trivial ⟨⟨rfl, Nat.le_refl _⟩, ⟨rfl, Nat.le_refl _⟩, ⟨rfl, Nat.le_refl _⟩, trivial⟩ (by omega) (by omega) (by omega)
      · obtain rfl := nil_of (ek (by omega))
        have hh := own_nne pages stack types data [] [] []
        simp only [lenT_eq, List.drop_zero, Nat.zero_add, Nat.sub_zero, Nat.mul_one, Int.toNat_natCast, ocd1, ocd2, ocd8, ocd9, Bool.and_self, cond_true] at hh
        exact own_any hh trivial ⟨⟨rfl, Nat.le_refl _⟩, ⟨rfl, Nat.le_refl _⟩, ⟨rfl, Nat.le_refl _⟩, trivial⟩ (by omega) (by omega) (by omega)
      · skip
        have hh := own_nnl pages stack types data [] [] starts
        simp only [lenT_eq, List.drop_zero, Nat.zero_add, Nat.sub_zero, Nat.mul_one, Int.toNat_natCast, ocd1, ocd2, ocd8, ocd9, ocs1, ocs2, ocs3, ocs4, ocs5, ocs6, ocs7, ocs8, ocs9, Bool.and_self, cond_true] at hh
        exact own_any hh trivial ⟨⟨rfl, Nat.le_refl _⟩, ⟨rfl, Nat.le_refl _⟩, ⟨rfl, Nat.le_refl _⟩, trivial⟩ (by omega) (by omega) (by omega)
    · obtain rfl := nil_of (ej (by omega))
      obtain rfl | rfl | rfl : k = 0 ∨ k = 1 ∨ k = 2 := by omega
      · obtain rfl := nil_of (ek (by omega))
        have hh := own_nen pages stack types data [] [] []
        simp only [lenT_eq, List.drop_zero, Nat.zero_add, Nat.sub_zero, Nat.mul_one, Int.toNat_natCast, ocd1, ocd2, ocd8, ocd9, Bool.and_self, cond_true] at hh
        exact own_any hh trivial ⟨⟨rfl, Nat.le_refl _⟩, ⟨rfl, Nat.le_refl _⟩, ⟨rfl, Nat.le_refl _⟩, trivial⟩ (by omega) (by omega) (by omega)
      · obtain rfl := nil_of (ek (by omega))
        have hh := own_nee pages stack types data [] [] []
        simp only [lenT_eq, List.drop_zero, Nat.zero_add, Nat.sub_zero, Nat.mul_one, Int.toNat_natCast, ocd1, ocd2, ocd8, ocd9, Bool.and_self, cond_true] at hh
        exact own_any hh trivial ⟨⟨rfl, Nat.le_refl _⟩, ⟨rfl, Nat.le_refl _⟩, ⟨rfl, Nat.le_refl _⟩, trivial⟩ (by omega) (by omega) (by omega)
      · skip
        have hh := own_nel pages stack types data [] [] starts
        simp only [lenT_eq, List.drop_zero, Nat.zero_add, Nat.sub_zero, Nat.mul_one, Int.toNat_natCast, ocd1, ocd2, ocd8, ocd9, ocs1, ocs2, ocs3, ocs4, ocs5, ocs6, ocs7, ocs8, ocs9, Bool.and_self, cond_true] at hh
        exact own_any hh trivial ⟨⟨rfl, Nat.le_refl _⟩, ⟨rfl, Nat.le_refl _⟩, ⟨rfl, Nat.le_refl _⟩, trivial⟩ (by omega) (by omega) (by omega)
    · skip
      obtain rfl | rfl | rfl : k = 0 ∨ k = 1 ∨ k = 2 := by omega
      · obtain rfl := nil_of (ek (by omega))
        have hh := own_nln pages stack types data [] rs []
        simp only [lenT_eq, List.drop_zero, Nat.zero_add, Nat.sub_zero, Nat.mul_one, Int.toNat_natCast, ocd1, ocd2, ocd8, ocd9, ocr1, ocr2, ocr3, ocr4, ocr5, ocr6, ocr7, ocr8, ocr9, Bool.and_self, cond_true] at hh
        exact own_any hh trivial ⟨⟨rfl, Nat.le_refl _⟩, ⟨rfl, Nat.le_refl _⟩, ⟨rfl, Nat.le_refl _⟩, trivial⟩ (by omega) (by omega) (by omega)
      · obtain rfl := nil_of (ek (by omega))
        have hh := own_nle pages stack types data [] rs []
        simp only [lenT_eq, List.drop_zero, Nat.zero_add, Nat.sub_zero, Nat.mul_one, Int.toNat_natCast, ocd1, ocd2, ocd8, ocd9, ocr1, ocr2, ocr3, ocr4, ocr5, ocr6, ocr7, ocr8, ocr9, Bool.and_self, cond_true] at hh
        exact own_any hh trivial ⟨⟨rfl, Nat.le_refl _⟩, ⟨rfl, Nat.le_refl _⟩, ⟨rfl, Nat.le_refl _⟩, trivial⟩ (by omega) (by omega) (by omega)
      · skip
        have hh := own_nll pages stack types data [] rs starts
        simp only [lenT_eq, List.drop_zero, Nat.zero_add, Nat.sub_zero, Nat.mul_one, Int.toNat_natCast, ocd1, ocd2, ocd8, ocd9, ocr1, ocr2, ocr3, ocr4, ocr5, ocr6, ocr7, ocr8, ocr9, ocs1, ocs2, ocs3, ocs4, ocs5, ocs6, ocs7, ocs8, ocs9, Bool.and_self, cond_true] at hh
        exact own_any hh trivial ⟨⟨rfl, Nat.le_refl _⟩, ⟨rfl, Nat.le_refl _⟩, ⟨rfl, Nat.le_refl _⟩, trivial⟩ (by omega) (by omega) (by omega)
  · obtain rfl := nil_of (ei (by omega))
    obtain rfl | rfl | rfl : j = 0 ∨ j = 1 ∨ j = 2 := by omega
    · obtain rfl := nil_of (ej (by omega))
      obtain rfl | rfl | rfl : k = 0 ∨ k = 1 ∨ k = 2 := by omega
      · obtain rfl := nil_of (ek (by omega))
        have hh := own_enn pages stack types data [] [] []
        simp only [lenT_eq, List.drop_zero, Nat.zero_add, Nat.sub_zero, Nat.mul_one, Int.toNat_natCast, ocd1, ocd2, ocd8, ocd9, Bool.and_self, cond_true] at hh
        exact own_any hh trivial ⟨⟨rfl, Nat.le_refl _⟩, ⟨rfl, Nat.le_refl _⟩, ⟨rfl, Nat.le_refl _⟩, trivial⟩ (by omega) (by omega) (by omega)
      · obtain rfl := nil_of (ek (by omega))
        have hh := own_ene pages stack types data [] [] []
        simp only [lenT_eq, List.drop_zero, Nat.zero_add, Nat.sub_zero, Nat.mul_one, Int.toNat_natCast, ocd1, ocd2, ocd8, ocd9, Bool.and_self, cond_true] at hh
        exact own_any hh trivial ⟨⟨rfl, Nat.le_refl _⟩, ⟨rfl, Nat.le_refl _⟩, ⟨rfl, Nat.le_refl _⟩, trivial⟩ (by omega) (by omega) (by omega)
      · skip
        have hh := own_enl pages stack types data [] [] starts
        simp only [lenT_eq, List.drop_zero, Nat.zero_add, Nat.sub_zero, Nat.mul_one, Int.toNat_natCast, ocd1, ocd2, ocd8, ocd9, ocs1, ocs2, ocs3, ocs4, ocs5, ocs6, ocs7, ocs8, ocs9, Bool.and_self, cond_true] at hh
        exact own_any hh trivial ⟨⟨rfl, Nat.le_refl _⟩, ⟨rfl, Nat.le_refl _⟩, ⟨rfl, Nat.le_refl _⟩, trivial⟩ (by omega) (by omega) (by omega)
    · obtain rfl := nil_of (ej (by omega))
      obtain rfl | rfl | rfl : k = 0 ∨ k = 1 ∨ k = 2 := by omega
      · obtain rfl := nil_of (ek (by omega))
        have hh := own_een pages stack types data [] [] []
        simp only [lenT_eq, List.drop_zero, Nat.zero_add, Nat.sub_zero, Nat.mul_one, Int.toNat_natCast, ocd1, ocd2, ocd8, ocd9, Bool.and_self, cond_true] at hh
        exact own_any hh trivial ⟨⟨rfl, Nat.le_refl _⟩, ⟨rfl, Nat.le_refl _⟩, ⟨rfl, Nat.le_refl _⟩, trivial⟩ (by omega) (by omega) (by omega)
      · obtain rfl := nil_of (ek (by omega))
        have hh := own_eee pages stack types data [] [] []
        simp only [lenT_eq, List.drop_zero, Nat.zero_add, Nat.sub_zero, Nat.mul_one, Int.toNat_natCast, ocd1, ocd2, ocd8, ocd9, Bool.and_self, cond_true] at hh
        exact own_any hh trivial ⟨⟨rfl, Nat.le_refl _⟩, ⟨rfl, Nat.le_refl _⟩, ⟨rfl, Nat.le_refl _⟩, trivial⟩ (by omega) (by omega) (by omega)
      · skip
        have hh := own_eel pages stack types data [] [] starts
        simp only [lenT_eq, List.drop_zero, Nat.zero_add, Nat.sub_zero, Nat.mul_one, Int.toNat_natCast, ocd1, ocd2, ocd8, ocd9, ocs1, ocs2, ocs3, ocs4, ocs5, ocs6, ocs7, ocs8, ocs9, Bool.and_self, cond_true] at hh
        exact own_any hh trivial ⟨⟨rfl, Nat.le_refl _⟩, ⟨rfl, Nat.le_refl _⟩, ⟨rfl, Nat.le_refl _⟩, trivial⟩ (by omega) (by omega) (by omega)
    · skip
      obtain rfl | rfl | rfl : k = 0 ∨ k = 1 ∨ k = 2 := by omega
      · obtain rfl := nil_of (ek (by omega))
        have hh := own_eln pages stack types data [] rs []
        simp only [lenT_eq, List.drop_zero, Nat.zero_add, Nat.sub_zero, Nat.mul_one, Int.toNat_natCast, ocd1, ocd2, ocd8, ocd9, ocr1, ocr2, ocr3, ocr4, ocr5, ocr6, ocr7, ocr8, ocr9, Bool.and_self, cond_true] at hh
        exact own_any hh trivial ⟨⟨rfl, Nat.le_refl _⟩, ⟨rfl, Nat.le_refl _⟩, ⟨rfl, Nat.le_refl _⟩, trivial⟩ (by omega) (by omega) (by omega)
      · obtain rfl := nil_of (ek (by omega))
        have hh := own_ele pages stack types data [] rs []
        simp only [lenT_eq, List.drop_zero, Nat.zero_add, Nat.sub_zero, Nat.mul_one, Int.toNat_natCast, ocd1, ocd2, ocd8, ocd9, ocr1, ocr2, ocr3, ocr4, ocr5, ocr6, ocr7, ocr8, ocr9, Bool.and_self, cond_true] at hh
        exact own_any hh trivial ⟨⟨rfl, Nat.le_refl _⟩, ⟨rfl, Nat.le_refl _⟩, ⟨rfl, Nat.le_refl _⟩, trivial⟩ (by omega) (by omega) (by omega)
      · skip
        have hh := own_ell pages stack types data [] rs starts
        simp only [lenT_eq, List.drop_zero, Nat.zero_add, Nat.sub_zero, Nat.mul_one, Int.toNat_natCast, ocd1, ocd2, ocd8, ocd9, ocr1, ocr2, ocr3, ocr4, ocr5, ocr6, ocr7, ocr8, ocr9, ocs1, ocs2, ocs3, ocs4, ocs5, ocs6, ocs7, ocs8, ocs9, Bool.and_self, cond_true] at hh
        exact own_any hh trivial ⟨⟨rfl, Nat.le_refl _⟩, ⟨rfl, Nat.le_refl _⟩, ⟨rfl, Nat.le_refl _⟩, trivial⟩ (by omega) (by omega) (by omega)
  · skip
    obtain rfl | rfl | rfl : j = 0 ∨ j = 1 ∨ j = 2 := by omega
    · obtain rfl := nil_of (ej (by omega))
      obtain rfl | rfl | rfl : k = 0 ∨ k = 1 ∨ k = 2 := by omega
      · obtain rfl := nil_of (ek (by omega))
        have hh := own_lnn pages stack types data cs [] []
        simp only [lenT_eq, List.drop_zero, Nat.zero_add, Nat.sub_zero, Nat.mul_one, Int.toNat_natCast, ocd1, ocd2, ocd8, ocd9, occ1, occ2, occ3, occ4, occ5, occ6, occ7, occ8, occ9, Bool.and_self, cond_true] at hh
        exact own_any hh trivial ⟨⟨rfl, Nat.le_refl _⟩, ⟨rfl, Nat.le_refl _⟩, ⟨rfl, Nat.le_refl _⟩, trivial⟩ (by omega) (by omega) (by omega)
      · obtain rfl := nil_of (ek (by omega))
        have hh := own_lne pages stack types data cs [] []
        simp only [lenT_eq, List.drop_zero, Nat.zero_add, Nat.sub_zero, Nat.mul_one, Int.toNat_natCast, ocd1, ocd2, ocd8, ocd9, occ1, occ2, occ3, occ4, occ5, occ6, occ7, occ8, occ9, Bool.and_self, cond_true] at hh
        exact own_any hh trivial ⟨⟨rfl, Nat.le_refl _⟩, ⟨rfl, Nat.le_refl _⟩, ⟨rfl, Nat.le_refl _⟩, trivial⟩ (by omega) (by omega) (by omega)
      · skip
        have hh := own_lnl pages stack types data cs [] starts
        simp only [lenT_eq, List.drop_zero, Nat.zero_add, Nat.sub_zero, Nat.mul_one, Int.toNat_natCast, ocd1, ocd2, ocd8, ocd9, occ1, occ2, occ3, occ4, occ5, occ6, occ7, occ8, occ9, ocs1, ocs2, ocs3, ocs4, ocs5, ocs6, ocs7, ocs8, ocs9, Bool.and_self, cond_true] at hh
        exact own_any hh trivial ⟨⟨rfl, Nat.le_refl _⟩, ⟨rfl, Nat.le_refl _⟩, ⟨rfl, Nat.le_refl _⟩, trivial⟩ (by omega) (by omega) (by omega)
    · obtain rfl := nil_of (ej (by omega))
      obtain rfl | rfl | rfl : k = 0 ∨ k = 1 ∨ k = 2 := by omega
      · obtain rfl := nil_of (ek (by omega))
        have hh := own_len pages stack types data cs [] []
        simp only [lenT_eq, List.drop_zero, Nat.zero_add, Nat.sub_zero, Nat.mul_one, Int.toNat_natCast, ocd1, ocd2, ocd8, ocd9, occ1, occ2, occ3, occ4, occ5, occ6, occ7, occ8, occ9, Bool.and_self, cond_true] at hh
        exact own_any hh trivial ⟨⟨rfl, Nat.le_refl _⟩, ⟨rfl, Nat.le_refl _⟩, ⟨rfl, Nat.le_refl _⟩, trivial⟩ (by omega) (by omega) (by omega)
      · obtain rfl := nil_of (ek (by omega))
        have hh := own_lee pages stack types data cs [] []
        simp only [lenT_eq, List.drop_zero, Nat.zero_add, Nat.sub_zero, Nat.mul_one, Int.toNat_natCast, ocd1, ocd2, ocd8, ocd9, occ1, occ2, occ3, occ4, occ5, occ6, occ7, occ8, occ9, Bool.and_self, cond_true] at hh
        exact own_any hh trivial ⟨⟨rfl, Nat.le_refl _⟩, ⟨rfl, Nat.le_refl _⟩, ⟨rfl, Nat.le_refl _⟩, trivial⟩ (by omega) (by omega) (by omega)
      · skip
        have hh := own_lel pages stack types data cs [] starts
        simp only [lenT_eq, List.drop_zero, Nat.zero_add, Nat.sub_zero, Nat.mul_one, Int.toNat_natCast, ocd1, ocd2, ocd8, ocd9, occ1, occ2, occ3, occ4, occ5, occ6, occ7, occ8, occ9, ocs1, ocs2, ocs3, ocs4, ocs5, ocs6, ocs7, ocs8, ocs9, Bool.and_self, cond_true] at hh
        exact own_any hh trivial ⟨⟨rfl, Nat.le_refl _⟩, ⟨rfl, Nat.le_refl _⟩, ⟨rfl, Nat.le_refl _⟩, trivial⟩ (by omega) (by omega) (by omega)
    · skip
      obtain rfl | rfl | rfl : k = 0 ∨ k = 1 ∨ k = 2 := by omega
      · obtain rfl := nil_of (ek (by omega))
        have hh := own_lln pages stack types data cs rs []
        simp only [lenT_eq, List.drop_zero, Nat.zero_add, Nat.sub_zero, Nat.mul_one, Int.toNat_natCast, ocd1, ocd2, ocd8, ocd9, occ1, occ2, occ3, occ4, occ5, occ6, occ7, occ8, occ9, ocr1, ocr2, ocr3, ocr4, ocr5, ocr6, ocr7, ocr8, ocr9, Bool.and_self, cond_true] at hh
        exact own_any hh trivial ⟨⟨rfl, Nat.le_refl _⟩, ⟨rfl, Nat.le_refl _⟩, ⟨rfl, Nat.le_refl _⟩, trivial⟩ (by omega) (by omega) (by omega)
      · obtain rfl := nil_of (ek (by omega))
        have hh := own_lle pages stack types data cs rs []
        simp only [lenT_eq, List.drop_zero, Nat.zero_add, Nat.sub_zero, Nat.mul_one, Int.toNat_natCast, ocd1, ocd2, ocd8, ocd9, occ1, occ2, occ3, occ4, occ5, occ6, occ7, occ8, occ9, ocr1, ocr2, ocr3, ocr4, ocr5, ocr6, ocr7, ocr8, ocr9, Bool.and_self, cond_true] at hh
        exact own_any hh trivial ⟨⟨rfl, Nat.le_refl _⟩, ⟨rfl, Nat.le_refl _⟩, ⟨rfl, Nat.le_refl _⟩, trivial⟩ (by omega) (by omega) (by omega)
      · skip
        have hh := own_lll pages stack types data cs rs starts
        simp only [lenT_eq, List.drop_zero, Nat.zero_add, Nat.sub_zero, Nat.mul_one, Int.toNat_natCast, ocd1, ocd2, ocd8, ocd9, occ1, occ2, occ3, occ4, occ5, occ6, occ7, occ8, occ9, ocr1, ocr2, ocr3, ocr4, ocr5, ocr6, ocr7, ocr8, ocr9, ocs1, ocs2, ocs3, ocs4, ocs5, ocs6, ocs7, ocs8, ocs9, Bool.and_self, cond_true] at hh
        exact own_any hh trivial ⟨⟨rfl, Nat.le_refl _⟩, ⟨rfl, Nat.le_refl _⟩, ⟨rfl, Nat.le_refl _⟩, trivial⟩ (by omega) (by omega) (by omega)
theorem dropLo {P : Program} {f : FuncId} {d : Nat} {c : Con} (h : ConOk P f d c) : ConOk P f d { c with lo' := [] } := by
  refine ⟨h.enters, fun r w h1 h2 h3 h4 => (h.calls r w h1 h2 h3 h4).mono ?_, h.ng, h.le, h.wf0, ⟨h.wf1.1, fun x hx => by cases hx⟩, h.args, h.res, h.ok⟩
  rintro e w' ⟨r', he, T, hb⟩
  exact ⟨r', he, ⟨T.ext, T.dom, T.le, T.good0, ⟨T.good.is, T.good.inj, T.good.lt, fun x hx => by cases hx⟩, T.os, T.tape, T.output, T.size, T.frame, T.own⟩, hb⟩
theorem own_con (i j k : Nat) (pages stack types : Int) (data : List UInt8) (cs : List Nat) (rs : List Rl) (starts : List Nat) (hi : slOk i cs.length) (hj : slOk j rs.length) (hk : slOk k starts.length) :
    ConOk Try.prog 9 3 (ownC (inV i j k pages stack types data cs rs starts) (inH i j k cs rs starts) pages stack types data cs rs starts) := dropLo (own_conD i j k pages stack types data cs rs starts hi hj hk)
end Go.Proofs.Ytdljpnebpoaeiaa
namespace Go.Proofs.Ytdljpnebpoaeiaa
open Go.ChangeShapes Go.WideShapes Go.ChangeAt Go.RowKit
open Go.ChangeMaps (open_string shut_string)
theorem own : ownKnob Try.prog.godebug = none := by kernel_rfl
theorem laidOut : laidOutB Try.prog = true := by kernel_rfl
section
variable {H : Type} {enc : TypeId × Value → H} {P : Program}
theorem post_of_below {f : Func} {s : ChangeSpec} {apart fresh handsOn again : Bool} {W W' : World} {args : Array Value} {v : Value} {ds gs : List (DataW H)} {before pa pv : List MemPlace}
    (hW : DataW.Whole enc P f.params.toList s.vars apart W args.toList ds gs before)
    (hres : ∀ (b : Nat) (sp : Nat → Bool) (hd : Bool), DataW.TrodAll enc P W' b sp hd f.resultTypes.toList (v.resultList f.resultTypes.size) (s.fn H (ds ++ gs)).results [])
    (hargs : ∀ sp : Nat → Bool, (∀ p ∈ before, sp p.block = true) → DataW.TrodAll enc P W' 0 sp true f.params.toList args.toList (s.fn H (ds ++ gs)).args pa)
    (hvars : ∀ sp : Nat → Bool, (∀ p ∈ before, sp p.block = true) → DataW.TrodVars enc P W' sp s.vars (s.fn H (ds ++ gs)).vars pv)
    (hps : before = pa ++ pv) (hb : Below W.heap.size W W')
    (hok : ∀ (j : Nat) (t : TypeId) (r : Value), f.resultTypes[j]? = some t → (v.resultList f.resultTypes.size)[j]? = some r → Value.okWide P W' .any 0 t r) :
    s.post enc P f apart fresh handsOn again W args v W' := by
  have hlt : ∀ p ∈ before, p.block < W.heap.size := fun p hp => hW.lt p hp
  have hold : ∀ p ∈ before, (fun b => decide (b < W.heap.size)) p.block = true := fun p hp => by simpa using hlt p hp
  refine ⟨ds, gs, before, [], pa, pv, hW, hres _ _ _, hargs _ hold, hvars _ hold, World.keptBut_mono (fun p hp => ⟨hp, ?_⟩) (hb.frame (· ∈ before)), fun _ => ?_⟩
  · rw [hps, List.mem_append] at hp
    exact Or.inr hp
  · obtain ⟨_, _, _, _, _, hz, hn⟩ := hW
    refine ⟨hok, _, _, ([] ++ pa) ++ pv, ⟨[] ++ pa, pv, trodAll_append (hargs _ (fun _ _ => rfl)) (hres _ _ _), hvars _ (fun _ _ => rfl), rfl, ?_, ?_⟩, ?_⟩
    · intro b off hp
      have hin : MemPlace.cell b off ∈ before := by rw [hps]; simpa using hp
      rw [hb.frozen (hlt _ hin)]
      exact hz b off hin
    · intro ha
      have := hn ha
      rw [hps] at this
      simpa using this
    · intro p hp _
      rw [hps]
      simpa using hp
theorem below_trodAll (hl : laidOutB P = true) {W W' : World} (hb : Below W.heap.size W W') {sp : Nat → Bool} : ∀ (ts : List TypeId) (vs : List Value) (ds : List (DataW H)) (ps : List MemPlace),
    (∀ t ∈ ts, P.readableRec t = true ∧ t < P.types.size) → DataW.TrodAll enc P W 0 (fun _ => true) true ts vs ds ps → (∀ x ∈ ps, x.block < W.heap.size) → (∀ x ∈ ps, sp x.block = true) →
    DataW.TrodAll enc P W' 0 sp true ts vs ds ps
  | [], [], [], _, _, h, _, _ => h
  | t :: ts, v :: vs, d :: ds, ps, ht, h, hlt, hs => by
    obtain ⟨p, q, h1, h2, rfl⟩ := h
    refine ⟨p, q, ?_, below_trodAll hl hb ts vs ds q (fun u hu => ht u (List.mem_cons_of_mem _ hu)) h2 (fun x hx => hlt x (List.mem_append_right _ hx)) (fun x hx => hs x (List.mem_append_right _ hx)), rfl⟩
    exact WideElems.Trod_stays hl (ht t (List.mem_cons_self ..)).1 (ht t (List.mem_cons_self ..)).2 h1 (fun x hx => hb.same (hlt x (List.mem_append_left _ hx))) (fun x hx => hs x (List.mem_append_left _ hx))
  | [], [], _ :: _, _, _, h, _, _ => h.elim
  | [], _ :: _, _, _, _, h, _, _ => h.elim
  | _ :: _, [], _, _, _, h, _, _ => h.elim
  | _ :: _, _ :: _, [], _, _, h, _, _ => h.elim
theorem trodAll_length {W : World} {base : Nat} {sp : Nat → Bool} {hd : Bool} : ∀ (ts : List TypeId) (vs : List Value) (ds : List (DataW H)) (ps : List MemPlace), DataW.TrodAll enc P W base sp hd ts vs ds ps → ds.length = ts.length
  | [], [], [], _, _ => rfl
  | _ :: ts, _ :: vs, _ :: ds, _, h => by
    obtain ⟨_, _, _, h2, _⟩ := h
    simp [trodAll_length ts vs ds _ h2]
  | [], [], _ :: _, _, h => h.elim
  | [], _ :: _, _, _, h => h.elim
  | _ :: _, [], _, _, h => h.elim
  | _ :: _, _ :: _, [], _, h => h.elim
end
theorem wf_u32 {n : Int} (h : (Lit.int .u32 n).wf = true) : 0 ≤ n ∧ n < 4294967296 := by
  have := bounds_u32 h; omega
theorem wf_u16 {n : Int} (h : (Lit.int .u16 n).wf = true) : 0 ≤ n ∧ n < 65536 := by
  have := bounds_u16 h; omega
def LawWalk (f : FuncId) (fn : Func) : Prop :=
  ∀ (H : Type) (enc : TypeId × Value → H) (W : World) (base : Nat) (args : Array Value) (ds : List (DataW H)) (p : List MemPlace),
    (∀ (j : Nat) t v, fn.params[j]? = some t → args[j]? = some v → Value.okWide Try.prog W .any base t v) →
    DataW.TrodAll enc Try.prog W 0 (fun _ => true) true fn.params.toList args.toList ds p →
    Calls Try.prog f args W fun e W' => e = .returned (.bool true) ∧ Below W.heap.size W W'
set_option maxRecDepth 100000 in
theorem law_lifted (f : FuncId) (fn : Func) (s : ChangeSpec) (conds : List PathCond) (hfn : Try.prog.funcs[f]? = some fn) (noInit : Try.prog.inits.idxOf? f = none)
    (hres : fn.resultTypes = #[4])
    (hvars : s.vars = []) (hspec : ∀ (H : Type) (ds : List (DataW H)), ds.length = fn.params.toList.length → (s.fn H (ds ++ [])).results = [.lit (.bool true)] ∧ (s.fn H (ds ++ [])).args = ds ∧ (s.fn H (ds ++ [])).vars = [])
    (hts : ∀ t ∈ fn.params.toList, Try.prog.readableRec t = true ∧ t < Try.prog.types.size)
    (walk : LawWalk f fn) (os : Os) (started : os.Started) (H : Type) (enc : TypeId × Value → H)
    (witness : ∃ (w : World) (tape : Tape) (i : Input), w.os = os ∧ (w.forCall tape i).Shaped Try.checked.prog ∧ i.vars = [] ∧ Input.okWide Try.checked.prog (w.forCall tape i) .any w.heap.size f i ∧
      s.pre6 enc Try.checked.prog fn conds false (w.forCall tape i).memory i.args ∧ ({} : Assume).holds Try.checked.prog (lone (Frame.enter Try.checked.prog f i.args .normal) [] (w.forCall tape i))) :
    ReturnsInHanded {} Try.checked os f .any (s.pre6 enc Try.prog fn conds false) (s.post enc Try.prog fn false true false false) := by
  refine returnsInHanded_of_change (C := Try.checked) own started noInit hfn witness ?_
  intro W base args ds gs before hval0 hW _ _
  have hW' := hW
  obtain ⟨p, q, hA, hV, rfl, _, _⟩ := hW
  rw [hvars] at hV
  obtain ⟨rfl, rfl⟩ := trodVars_none hV
  obtain ⟨e1, e2, e3⟩ := hspec H ds (trodAll_length _ _ _ _ hA)
  refine (walk H enc W base args ds p hval0 hA).mono fun e W' ⟨he, hg⟩ => ?_
  subst he
  refine ⟨_, rfl, post_of_below (pa := p) (pv := []) hW' (fun b sp hd => ?_) (fun sp hsp => ?_) (fun sp _ => ?_) rfl hg ?_⟩
  · rw [e1, hres]
    exact trodAll_mk1 (shut_bool Try.underlying4 _)
  · rw [e2]
    exact below_trodAll laidOut hg _ _ _ _ hts hA (fun x hx => hW'.lt x (List.mem_append_left _ hx)) (fun x hx => hsp x (List.mem_append_left _ hx))
  · rw [e3, hvars]; rfl
  · exact ok_one hres rfl (okWide_bool_mk Try.underlying4 _)
end Go.Proofs.Ytdljpnebpoaeiaa
namespace Go.Proofs.Ytdljpnebpoaeiaa
set_option linter.unusedVariables false
set_option linter.unusedSimpArgs false
open Go.ChangeShapes Go.WideShapes Go.Deep
section
variable {H : Type} {enc : TypeId × Value → H} {P : Program} {w : World} {base : Nat} {spare : Nat → Bool} {held : Bool}
theorem open_slice_fields {t e : TypeId} {fs : Array Field} {fuel : Nat} {cs : List Value} {x : DataW H × List MemPlace} (ht : P.underlying t = some (.slice e)) (he : P.underlying e = some (.struct fs))
    (hone : oneCellFields P fs = true) (hC : P.cellsOf e = fs.size) (h : DataW.trod enc P w base spare held fuel t cs = some x) :
    (cs = [.slice none 0 0] ∧ x = (.nil, [])) ∨
    ∃ (a : Addr) (len cap m : Nat) (D : Nat → DataW H) (Pl : Nat → List MemPlace), cs = [.slice (some a) len cap] ∧ base ≤ a.block ∧ len ≤ cap ∧ cap ≤ maxLen ∧ m = (if spare a.block then cap else len) ∧
      x = (.slice ((List.range len).map D) ((List.range (m - len)).map fun j => D (len + j)), MemPlace.row a (m * fs.size) ++ (List.range m).flatMap Pl) ∧
      ∀ i, i < m → ∃ (ys : List (DataW H × List MemPlace)) (n : Nat), D i = .agg (ys.map (·.1)) ∧ Pl i = ys.flatMap (·.2) ∧ ys.length = fs.size ∧
        ∀ (j : Nat) (f : Field), fs[j]? = some f → ∃ (v : Value) (y : DataW H × List MemPlace), w.cell? (a.add (i * fs.size + j)) = some v ∧ ys[j]? = some y ∧ DataW.trod enc P w base spare held n f.type [v] = some y := by
  rcases open_slice ht h with h0 | ⟨a, len, cap, m, n, D, Pl, hcs, hb, hl, hm, hmm, hx, hi⟩
  · exact .inl h0
  · refine .inr ⟨a, len, cap, m, D, Pl, hcs, hb, hl, hm, hmm, by rw [hC] at hx; exact hx, fun i him => ?_⟩
    obtain ⟨cs', hc, ht'⟩ := hi i him
    rw [hC] at hc
    obtain ⟨ys, n', hn', hy, hlen, hyl, hf⟩ := DataW.trod_struct he ht'
    obtain ⟨_, hcl, hat⟩ := World.cells?_some hc
    simp only [Prod.mk.injEq] at hy
    refine ⟨ys, n', hy.1, hy.2, hyl, fun j f hj => ?_⟩
    obtain ⟨ho, hk⟩ := hone_of hone j f hj
    have hjl : j < fs.size := (Array.getElem?_eq_some_iff.1 hj).1
    have hcell := hat j hjl
    have hv : cs'[j]? = some (cs'[j]'(by omega)) := List.getElem?_eq_getElem (by omega)
    have h1 := hf j f hj
    rw [ho, hk] at h1
    have hone' : (cs'.drop j).take 1 = [cs'[j]'(by omega)] := by
      rw [List.drop_eq_getElem_cons (by omega)]
      rfl
    rw [hone'] at h1
    have hys : ys[j]? = some (ys[j]'(by omega)) := List.getElem?_eq_getElem (by omega)
    refine ⟨_, _, ?_, hys, h1.trans hys⟩
    rw [← Go.Deep.add_add, hcell, hv]
end
end Go.Proofs.Ytdljpnebpoaeiaa
namespace Go.Proofs.Ytdljpnebpoaeiaa
set_option linter.unusedVariables false
set_option linter.unusedSimpArgs false
open Go.ChangeShapes Go.WideShapes Go.Deep Go.RowKit
section
variable {H : Type} {enc : TypeId × Value → H} {P : Program} {w : World} {base : Nat} {spare : Nat → Bool} {held : Bool}
theorem open_agg_all {r : Reach} {b0 : Nat} {t : TypeId} {fs : Array Field} {v : Value} {d : DataW H} {p : List MemPlace} (hs : P.underlying t = some (.struct fs)) (hone : oneCellFields P fs = true) (hC : P.cellsOf t = fs.size)
    (hv : Value.okWide P w r b0 t v) (h : DataW.Trod enc P w base spare held t v d p) :
    ∃ cs : List Value, v = .agg cs.toArray ∧ cs.length = fs.size ∧ ∀ (j : Nat) (f : Field), fs[j]? = some f → ∃ (u : Value) (y : DataW H × List MemPlace) (n : Nat), cs[j]? = some u ∧ DataW.trod enc P w base spare held n f.type [u] = some y := by
  obtain ⟨cs, rfl, hsz⟩ := okWide_struct hs hv
  obtain ⟨l⟩ := cs
  refine ⟨l, rfl, hsz.trans hC, fun j f hj => ?_⟩
  obtain ⟨fuel, hf⟩ := h
  obtain ⟨xs, n, _, hx, _, hlen, hg⟩ := DataW.trod_struct hs hf
  obtain ⟨o, k⟩ := hone_of hone j f hj
  have hjl : j < fs.size := (Array.getElem?_eq_some_iff.1 hj).1
  have hl : l.length = fs.size := hsz.trans hC
  have h1 := hg j f hj
  rw [o, k] at h1
  simp only [Value.cells] at h1
  have hone' : (l.drop j).take 1 = [l[j]'(by omega)] := by
    rw [List.drop_eq_getElem_cons (by omega)]
    rfl
  rw [hone'] at h1
  exact ⟨l[j]'(by omega), xs[j]'(by omega), n, List.getElem?_eq_getElem (by omega), h1.trans (List.getElem?_eq_getElem (by omega))⟩
end
end Go.Proofs.Ytdljpnebpoaeiaa
namespace Go.Proofs.Ytdljpnebpoaeiaa
set_option linter.unusedVariables false
set_option linter.unusedSimpArgs false
open Go.ChangeShapes Go.WideShapes Go.Deep Go.RowKit
open Sy
structure SlIs (W : World) (v : Value) (k : Nat) (cells : List Value) (n B O C : Nat) (S : Option Nat) : Prop where
  is : v = (match k with | 0 => .slice none 0 0 | 1 => .slice (some ⟨B, O, S⟩) 0 C | _ => .slice (some ⟨B, O, none⟩) n C)
  ok : slOk k n
  le : n ≤ C
  at_ : 2 ≤ k → ∃ arr ty fr, W.heap[B]? = some (.cells arr ty fr) ∧ O + cells.length ≤ arr.size ∧ ∀ j v, cells[j]? = some v → arr[O + j]? = some v
section
variable {H : Type} {enc : TypeId × Value → H} {P : Program} {W : World} {base : Nat} {spare : Nat → Bool} {held : Bool}
theorem cell_is {a : Addr} {v : Value} (h : W.cell? a = some v) : ∃ arr ty fr, W.heap[a.block]? = some (.cells arr ty fr) ∧ arr[a.off]? = some v ∧ a.spot = none := by
  have hs := World.cell?_spot h
  unfold World.cell? at h
  split at h
  · rename_i c t f hb
    rw [hs] at h
    exact ⟨c, t, f, hb, by simpa using h, hs⟩
  · cases h
theorem add_off {a : Addr} (h : a.spot = none) (i : Nat) : (a.add i).block = a.block ∧ (a.add i).off = a.off + i := by
  obtain ⟨b, o, s⟩ := a
  subst h
  unfold Addr.add
  split <;> simp_all
theorem row_is {a : Addr} {cells : List Value} (h0 : 0 < cells.length) (h : ∀ i v, cells[i]? = some v → W.cell? (a.add i) = some v) : a.spot = none ∧ ∃ arr ty fr, W.heap[a.block]? = some (.cells arr ty fr) ∧ a.off + cells.length ≤ arr.size ∧ ∀ j v, cells[j]? = some v → arr[a.off + j]? = some v := by
  have h1 := h 0 _ (List.getElem?_eq_getElem h0)
  rw [show a.add 0 = a by unfold Addr.add; simp] at h1
  obtain ⟨arr, ty, fr, q1, q2, q3⟩ := cell_is h1
  have hat : ∀ j v, cells[j]? = some v → arr[a.off + j]? = some v := fun j v hj => by
    obtain ⟨arr', ty', fr', p1, p2, _⟩ := cell_is (h j v hj)
    obtain ⟨e1, e2⟩ := add_off q3 j
    rw [e1, q1] at p1
    cases p1
    rw [e2] at p2
    exact p2
  refine ⟨q3, arr, ty, fr, q1, ?_, hat⟩
  have := hat (cells.length - 1) _ (List.getElem?_eq_getElem (by omega))
  have := (Array.getElem?_eq_some_iff.1 this).1
  omega
theorem u32_slice {t e : TypeId} {fuel : Nat} {u : Value} {x : DataW H × List MemPlace} (ht : P.underlying t = some (.slice e)) (he : P.underlying e = some (.int .u32)) (hc : P.cellsOf e = 1)
    (h : DataW.trod enc P W base spare held fuel t [u] = some x) : ∃ (k : Nat) (xs : List Nat) (B O C : Nat) (S : Option Nat), SlIs W u k (u32s xs) xs.length B O C S ∧ ∀ y ∈ xs, y < 4294967296 := by
  rcases open_ints ht he hc h with ⟨h1, _⟩ | ⟨a, len, cap, zs, h1, _, hl, _, hz, _, hcell, hw⟩
  · simp only [List.cons.injEq, and_true] at h1
    exact ⟨0, [], 0, 0, 0, none, ⟨h1, ⟨by omega, fun _ => rfl⟩, Nat.le_refl _, fun h => by omega⟩, fun y hy => by cases hy⟩
  · simp only [List.cons.injEq, and_true] at h1
    subst h1
    have hlz : len ≤ zs.length := by rw [hz]; split <;> omega
    by_cases h0 : len = 0
    · subst h0
      obtain ⟨b, o, s⟩ := a
      exact ⟨1, [], b, o, cap, s, ⟨rfl, ⟨by omega, fun _ => rfl⟩, Nat.zero_le _, fun h => by omega⟩, fun y hy => by cases hy⟩
    · have hlen : ((zs.take len).map Int.toNat).length = len := by simp; omega
      have hget : ∀ i v, (u32s ((zs.take len).map Int.toNat))[i]? = some v → W.cell? (a.add i) = some v := by
        intro i v hv
        unfold u32s at hv
        rw [List.getElem?_map, List.getElem?_map, List.getElem?_take] at hv
        split at hv
        · rename_i hi
          rw [List.getElem?_eq_getElem (by omega)] at hv
          simp only [Option.map_some, Option.some.injEq] at hv
          have h2 := hcell i (by omega)
          have h3 : zs.getD i 0 = zs[i]'(by omega) := by rw [List.getD_eq_getElem?_getD, List.getElem?_eq_getElem (by omega)]; rfl
          rw [h3] at h2
          have h4 := wf_u32 (hw _ (List.getElem_mem (by omega : i < zs.length)))
          rw [h2, ← hv]
          congr 2
          exact (Int.toNat_of_nonneg h4.1).symm
        · cases hv
      have hul : (u32s ((zs.take len).map Int.toNat)).length = len := by unfold u32s; rw [List.length_map]; exact hlen
      obtain ⟨hs, hrow⟩ := row_is (a := a) (cells := u32s ((zs.take len).map Int.toNat)) (by omega) hget
      obtain ⟨b, o, s⟩ := a
      simp only at hs
      subst hs
      refine ⟨2, (zs.take len).map Int.toNat, b, o, cap, none, ⟨by rw [hlen]; rfl, ⟨by omega, fun h => by omega⟩, by rw [hlen]; exact hl, fun _ => hrow⟩, fun y hy => ?_⟩
      obtain ⟨z, hz', rfl⟩ := List.mem_map.1 hy
      have h4 := wf_u32 (hw z (List.mem_of_mem_take hz'))
      omega
end
instance : Inhabited Rl := ⟨⟨0, false, 0, 0, 0, 0⟩⟩
theorem rels_at : ∀ (rs : List Rl) (i j : Nat), i < rs.length → j < 6 → (rels rs)[i * 6 + j]? = (relC (rl0 rs i))[j]?
  | [], i, j, h, _ => by simp at h
  | x :: rs, 0, j, _, hj => by
    rw [rels_cons, List.getElem?_append_left (by simp only [relC, List.length_cons, List.length_nil]; omega)]
    simp [rl0]
  | x :: rs, i + 1, j, h, hj => by
    have hl : (relC x).length = 6 := rfl
    rw [rels_cons, List.getElem?_append_right (by rw [hl]; omega), hl, show (i + 1) * 6 + j - 6 = i * 6 + j by omega, rels_at rs i j (by simpa using h) hj]
    rfl
section
variable {H : Type} {enc : TypeId × Value → H} {W : World} {base : Nat} {spare : Nat → Bool} {held : Bool}
theorem rel_slice {fuel : Nat} {u : Value} {x : DataW H × List MemPlace} (h : DataW.trod enc Try.prog W base spare held fuel 23 [u] = some x) :
    ∃ (k : Nat) (rs : List Rl) (B O C : Nat) (S : Option Nat), SlIs W u k (rels rs) rs.length B O C S ∧ ∀ y ∈ rs, RlOk y := by
  rcases open_slice_fields Try.underlying23 Try.underlying50 (by kernel_rfl) (by kernel_rfl) h with ⟨h1, _⟩ | ⟨a, len, cap, m, D, Pl, h1, _, hl, _, hm, _, hi⟩
  · simp only [List.cons.injEq, and_true] at h1
    exact ⟨0, [], 0, 0, 0, none, ⟨h1, ⟨by omega, fun _ => rfl⟩, Nat.le_refl _, fun h => by omega⟩, fun y hy => by cases hy⟩
  · simp only [List.cons.injEq, and_true] at h1
    subst h1
    have hlm : len ≤ m := by rw [hm]; split <;> omega
    by_cases h0 : len = 0
    · subst h0
      obtain ⟨b, o, s⟩ := a
      exact ⟨1, [], b, o, cap, s, ⟨rfl, ⟨by omega, fun _ => rfl⟩, Nat.zero_le _, fun h => by omega⟩, fun y hy => by cases hy⟩
    · obtain ⟨R, hR⟩ := choose_lt (n := len) (α := Rl) (p := fun i r => RlOk r ∧ ∀ j v, (relC r)[j]? = some v → W.cell? (a.add (i * 6 + j)) = some v) (fun i hil => by
        obtain ⟨ys, n, _, _, _, hf⟩ := hi i (by omega)
        obtain ⟨v0, y0, c0, _, t0⟩ := hf 0 _ rfl
        obtain ⟨v1, y1, c1, _, t1⟩ := hf 1 _ rfl
        obtain ⟨v2, y2, c2, _, t2⟩ := hf 2 _ rfl
        obtain ⟨v3, y3, c3, _, t3⟩ := hf 3 _ rfl
        obtain ⟨v4, y4, c4, _, t4⟩ := hf 4 _ rfl
        obtain ⟨v5, y5, c5, _, t5⟩ := hf 5 _ rfl
        obtain ⟨n0, e0, _, w0⟩ := DataW.trod_int Try.underlying27 t0
        obtain ⟨n1, e1, _⟩ := DataW.trod_bool Try.underlying4 t1
        obtain ⟨n2, e2, _, w2⟩ := DataW.trod_int Try.underlying27 t2
        obtain ⟨n3, e3, _, w3⟩ := DataW.trod_int Try.underlying27 t3
        obtain ⟨n4, e4, _, w4⟩ := DataW.trod_int Try.underlying48 t4
        obtain ⟨n5, e5, _, w5⟩ := DataW.trod_int Try.underlying48 t5
        simp only [List.cons.injEq, and_true] at e0 e1 e2 e3 e4 e5
        subst e0 e1 e2 e3 e4 e5
        have b0 := wf_u32 w0
        have b2 := wf_u32 w2
        have b3 := wf_u32 w3
        have b4 := wf_u16 w4
        have b5 := wf_u16 w5
        refine ⟨⟨n0.toNat, n1, n2.toNat, n3.toNat, n4.toNat, n5.toNat⟩, ⟨by show n0.toNat < _; omega, by show n2.toNat < _; omega, by show n3.toNat < _; omega, by show n4.toNat < _; omega, by show n5.toNat < _; omega⟩, fun j v hj => ?_⟩
        have hj6 : j < 6 := (List.getElem?_eq_some_iff.1 hj).1
        have cc : ∀ z : Int, 0 ≤ z → ((z.toNat : Nat) : Int) = z := fun z hz => Int.toNat_of_nonneg hz
        unfold relC at hj
        simp only [cc n0 b0.1, cc n2 b2.1, cc n3 b3.1, cc n4 b4.1, cc n5 b5.1] at hj
        obtain rfl | rfl | rfl | rfl | rfl | rfl : j = 0 ∨ j = 1 ∨ j = 2 ∨ j = 3 ∨ j = 4 ∨ j = 5 := by omega
        all_goals
          simp at hj
          subst hj
          assumption)
      have hlen : ((List.range len).map R).length = len := by simp
      have h0r : ∀ i, i < len → rl0 ((List.range len).map R) i = R i := fun i hil => by
        unfold rl0; rw [List.getD_eq_getElem?_getD, List.getElem?_map, List.getElem?_range hil]; rfl
      have hget : ∀ q v, (rels ((List.range len).map R))[q]? = some v → W.cell? (a.add q) = some v := by
        intro q v hv
        have hq : q < len * 6 := by
          have := (List.getElem?_eq_some_iff.1 hv).1
          rw [rels_len, hlen] at this; exact this
        have e : q = q / 6 * 6 + q % 6 := by omega
        rw [e, rels_at _ _ _ (by rw [hlen]; omega) (Nat.mod_lt _ (by omega)), h0r _ (by omega)] at hv
        rw [e]
        exact (hR (q / 6) (by omega)).2 _ _ hv
      obtain ⟨hs, hrow⟩ := row_is (a := a) (cells := rels ((List.range len).map R)) (by rw [rels_len, hlen]; omega) hget
      obtain ⟨b, o, s⟩ := a
      simp only at hs
      subst hs
      refine ⟨2, (List.range len).map R, b, o, cap, none, ⟨by rw [hlen]; rfl, ⟨by omega, fun h => by omega⟩, by rw [hlen]; exact hl, fun _ => hrow⟩, fun y hy => ?_⟩
      obtain ⟨i, hi', rfl⟩ := List.mem_map.1 hy
      exact (hR i (by simpa using hi')).1
end
theorem cap_big (r : Ren) (g : Nat) : r.cap (big + g) = r.c g := cap_letter r g
section
variable {r : Ren} {W : World} {v : Value} {k n B O C g : Nat} {S : Option Nat} {cells : List Value}
theorem sl_val (h : SlIs W v k cells n B O C S) (hb : r.b g = B) (hw : r.w g = O) (ho : r.o g = (O, S)) (hc : r.c g = C) : v = r.val (sl k g n) := by
  rw [h.is]
  rcases k with _ | _ | k
  · show Value.slice none 0 0 = r.val (.slice none 0 0)
    rw [val_slice]; simp only [Option.map_none, Ren.cap]; rfl
  · show Value.slice (some ⟨B, O, S⟩) 0 C = r.val (.slice (some ⟨g, 0, some g⟩) 0 (big + g))
    rw [val_slice, cap_big, hc]; simp [Ren.addr, hb, ho]
  · show Value.slice (some ⟨B, O, none⟩) n C = r.val (.slice (some ⟨g, 0, none⟩) n (big + g))
    rw [val_slice, cap_big, hc]; simp [Ren.addr, hb, hw]
theorem sl_bnd {d : Nat → Bool} (hd : d g = true) : bnd d (sl k g n) = true := by
  unfold sl
  split
  · exact bnd_flat0 _ rfl
  · rw [bnd_slice]; simp [bndA, hd]
  · rw [bnd_slice]; simp [bndA, hd]
theorem sl_block (h : SlIs W v k cells n B O C S) (hb : r.b g = B) (hw : r.w g = O) (hf : ∀ u ∈ cells, flat0 u = true) : ∀ x ∈ slH k g cells, x.1 = g ∧ x.2.rw = false ∧ x.2.op = some (0, 0) ∧ x.2.cells = cells ∧ Sy.Is r x.2 x.1 W := by
  intro x hx
  unfold slH at hx
  split at hx
  · cases hx
  · cases hx
  · rename_i k0 k1
    obtain rfl := List.mem_singleton.1 hx
    refine ⟨rfl, rfl, rfl, rfl, .inl ⟨rfl, ?_⟩⟩
    have hk2 : 2 ≤ k := by
      rcases Nat.lt_or_ge k 2 with h | h
      · have : k = 0 ∨ k = 1 := by omega
        rcases this with h | h
        · exact absurd h k0
        · exact absurd h k1
      · exact h
    obtain ⟨arr, ty, fr, p1, p2, p3⟩ := h.at_ hk2
    refine ⟨arr, ty, fr, by rw [hb]; exact p1, ⟨.inl rfl, by rw [hw]; exact p2⟩, fun j u hj => ?_, fun h => by cases h⟩
    rw [hw, val_flat0 r (hf u (List.mem_of_getElem? hj))]
    exact p3 j u hj
end
theorem eq7 {l : List Value} {a b c d e f g : Value} (hl : l.length = 7) (h0 : l[0]? = some a) (h1 : l[1]? = some b) (h2 : l[2]? = some c) (h3 : l[3]? = some d) (h4 : l[4]? = some e) (h5 : l[5]? = some f) (h6 : l[6]? = some g) : l = [a, b, c, d, e, f, g] := by
  match l, hl with
  | [x0, x1, x2, x3, x4, x5, x6], _ =>
    simp only [List.getElem?_cons_zero, List.getElem?_cons_succ, Option.some.injEq] at h0 h1 h2 h3 h4 h5 h6
    subst h0 h1 h2 h3 h4 h5 h6
    rfl
theorem open_img {H : Type} {enc : TypeId × Value → H} {W : World} {base b0 : Nat} {rc : Reach} {sp : Nat → Bool} {hd : Bool} {v : Value} {d : DataW H} {p : List MemPlace}
    (hv : Value.okWide Try.prog W rc b0 25 v) (h : DataW.Trod enc Try.prog W base sp hd 25 v d p) :
    ∃ (pages stack types : Int) (data : List UInt8) (cs : List Nat) (rs : List Rl) (starts : List Nat) (v1 v2 v3 : Value) (i j k B1 O1 C1 B2 O2 C2 B3 O3 C3 : Nat) (S1 S2 S3 : Option Nat),
      v = .agg ⟨[.int .i64 pages, .int .i64 stack, .int .i64 types, v1, .string ⟨⟨data⟩⟩, v2, v3]⟩ ∧ SlIs W v1 i (u32s cs) cs.length B1 O1 C1 S1 ∧ SlIs W v2 j (rels rs) rs.length B2 O2 C2 S2 ∧ SlIs W v3 k (u32s starts) starts.length B3 O3 C3 S3 ∧
      (∀ x ∈ cs, x < 4294967296) ∧ (∀ x ∈ rs, RlOk x) ∧ (∀ x ∈ starts, x < 4294967296) := by
  obtain ⟨l, rfl, hl, hf⟩ := open_agg_all Try.underlying25 (by kernel_rfl) (by kernel_rfl) hv h
  obtain ⟨u0, y0, m0, g0, t0⟩ := hf 0 _ rfl
  obtain ⟨u1, y1, m1, g1, t1⟩ := hf 1 _ rfl
  obtain ⟨u2, y2, m2, g2, t2⟩ := hf 2 _ rfl
  obtain ⟨u3, y3, m3, g3, t3⟩ := hf 3 _ rfl
  obtain ⟨u4, y4, m4, g4, t4⟩ := hf 4 _ rfl
  obtain ⟨u5, y5, m5, g5, t5⟩ := hf 5 _ rfl
  obtain ⟨u6, y6, m6, g6, t6⟩ := hf 6 _ rfl
  obtain ⟨pages, e0, _⟩ := DataW.trod_int Try.underlying3 t0
  obtain ⟨stack, e1, _⟩ := DataW.trod_int Try.underlying3 t1
  obtain ⟨types, e2, _⟩ := DataW.trod_int Try.underlying3 t2
  obtain ⟨str, e4, _⟩ := DataW.trod_string Try.underlying9 t4
  obtain ⟨i, cs, B1, O1, C1, S1, s1, n1⟩ := u32_slice Try.underlying22 Try.underlying27 (by kernel_rfl) t3
  obtain ⟨j, rs, B2, O2, C2, S2, s2, n2⟩ := rel_slice t5
  obtain ⟨k, starts, B3, O3, C3, S3, s3, n3⟩ := u32_slice Try.underlying22 Try.underlying27 (by kernel_rfl) t6
  simp only [List.cons.injEq, and_true] at e0 e1 e2 e4
  subst e0 e1 e2 e4
  obtain rfl := eq7 hl g0 g1 g2 g3 g4 g5 g6
  obtain ⟨⟨data⟩⟩ := str
  exact ⟨pages, stack, types, data, cs, rs, starts, u3, u5, u6, i, j, k, B1, O1, C1, B2, O2, C2, B3, O3, C3, S1, S2, S3, rfl, s1, s2, s3, n1, n2, n3⟩
theorem sl_form {k g n : Nat} (h : slOk k n) : ∃ (a : Option Addr) (c : Nat), sl k g n = .slice a n c := by
  obtain ⟨_, h2⟩ := h
  rcases k with _ | _ | k
  · obtain rfl := h2 (by omega); exact ⟨none, 0, rfl⟩
  · obtain rfl := h2 (by omega); exact ⟨some ⟨g, 0, some g⟩, big + g, rfl⟩
  · exact ⟨some ⟨g, 0, none⟩, big + g, rfl⟩
theorem inH_mem {i j k : Nat} {cs : List Nat} {rs : List Rl} {starts : List Nat} : ∀ x ∈ inH i j k cs rs starts, (x.1 = 64 ∨ x.1 = 65 ∨ x.1 = 66) ∧ x.2.rw = false ∧ x.2.op = some (0, 0) ∧ ∀ u ∈ x.2.cells, flat0 u = true := by
  have one : ∀ (k g : Nat) (cells : List Value), (∀ u ∈ cells, flat0 u = true) → ∀ x ∈ slH k g cells, x.1 = g ∧ x.2.rw = false ∧ x.2.op = some (0, 0) ∧ ∀ u ∈ x.2.cells, flat0 u = true := by
    intro k g cells hf x hx
    unfold slH at hx
    split at hx
    · cases hx
    · cases hx
    · obtain rfl := List.mem_singleton.1 hx
      exact ⟨rfl, rfl, rfl, hf⟩
  intro x hx
  unfold inH at hx
  rw [List.mem_append, List.mem_append] at hx
  rcases hx with (hx | hx) | hx
  · obtain ⟨e1, e⟩ := one _ _ _ (u32s_flat cs) x hx; exact ⟨.inl e1, e⟩
  · obtain ⟨e1, e⟩ := one _ _ _ (rels_flat rs) x hx; exact ⟨.inr (.inl e1), e⟩
  · obtain ⟨e1, e⟩ := one _ _ _ (u32s_flat starts) x hx; exact ⟨.inr (.inr e1), e⟩
end Go.Proofs.Ytdljpnebpoaeiaa
namespace Go.Proofs.Ytdljpnebpoaeiaa
set_option linter.unusedVariables false
set_option linter.unusedSimpArgs false
open Go.RowKit
open Sy
def inVg (g : Nat) (i j k : Nat) (pages stack types : Int) (data : List UInt8) (cs : List Nat) (rs : List Rl) (starts : List Nat) : Value :=
  .agg ⟨[.int .i64 pages, .int .i64 stack, .int .i64 types, sl i g cs.length, .string ⟨⟨data⟩⟩, sl j (g + 1) rs.length, sl k (g + 2) starts.length]⟩
def inHg (g : Nat) (i j k : Nat) (cs : List Nat) (rs : List Rl) (starts : List Nat) : Sy.Heap := slH i g (u32s cs) ++ slH j (g + 1) (rels rs) ++ slH k (g + 2) (u32s starts)
def inH2 (i j k i' j' k' : Nat) (cs cs2 : List Nat) (rs rs2 : List Rl) (ss ss2 : List Nat) : Sy.Heap := inHg 64 i j k cs rs ss ++ inHg 67 i' j' k' cs2 rs2 ss2
def lo6 (a b c d e f : Nat) : List (Nat × Nat) := [(64, a), (65, b), (66, c), (67, d), (68, e), (69, f)]
def own2C (v : Value) (h : Sy.Heap) (lo : List (Nat × Nat)) (pages stack types : Int) (data : List UInt8) (cs : List Nat) (rs : List Rl) (ss : List Nat) : Con :=
  ⟨[v], 70, h, lo, ownV pages stack types data cs rs ss 70 71 72, 73, ownH cs rs ss 70 71 72, loD cs rs ss 70 71 72⟩
theorem look_slH (k g : Nat) (cells : List Value) (x : Nat) : Sy.look (slH k g cells) x = bif Nat.ble 2 k && Nat.beq g x then some ⟨false, some (0, 0), cells, none⟩ else none := by
  unfold slH
  split
  · rfl
  · rfl
  · rename_i h0 h1
    have : Nat.ble 2 k = true := Nat.ble_eq_true_of_le (by
      have a : k ≠ 0 := h0
      have b : k ≠ 1 := h1
      omega)
    rw [this, Bool.true_and]
    rw [look_cons]
    cases e : Nat.beq g x
    · rw [if_neg (fun h => by simp only [] at h; rw [← h, Nat.beq_refl] at e; cases e)]; rfl
    · rw [if_pos (Nat.eq_of_beq_eq_true e).symm]; rfl
theorem seen_slH {σ : Nat → Nat} {d : Nat} {p : Nat → Bool} {H : Sy.Heap} {k g : Nat} {cells : List Value} (hp : p g = true) (hp0 : p 0 = true) (h0 : σ 0 = 0) (hf : ∀ v ∈ cells, flat0 v = true)
    (hl : Nat.ble 2 k = true → Sy.look H (σ g) = some ⟨false, some (0, 0), cells, none⟩) : SeenH d p σ H (slH k g cells) := by
  unfold slH
  split
  · trivial
  · trivial
  · rename_i a b
    have hl := hl (Nat.ble_eq_true_of_le (by
      have a : k ≠ 0 := a
      have b : k ≠ 1 := b
      omega))
    refine ⟨⟨hp, flat_all hf, hp0, ?_⟩, trivial⟩
    show (match Sy.look H (σ g) with | none => False | some k1 => _)
    rw [hl]
    refine ⟨rfl, ?_, trivial, (flat_map hf).symm⟩
    show (opB (some (0, 0)) (some (σ 0, 0)) || _) = true
    rw [h0]; rfl
theorem seenH_append {d : Nat} {p : Nat → Bool} {σ : Nat → Nat} {H : Sy.Heap} : ∀ {a b : Sy.Heap}, SeenH d p σ H a → SeenH d p σ H b → SeenH d p σ H (a ++ b)
  | [], _, _, h => h
  | _ :: _, _, h1, h2 => ⟨h1.1, seenH_append h1.2 h2⟩
theorem inHg_look (g i j k : Nat) (cs : List Nat) (rs : List Rl) (ss : List Nat) (x : Nat) : Sy.look (inHg g i j k cs rs ss) x = ((Sy.look (slH i g (u32s cs)) x).or (Sy.look (slH j (g + 1) (rels rs)) x)).or (Sy.look (slH k (g + 2) (u32s ss)) x) := by
  unfold inHg; rw [look_append, look_append]
section
variable (i j k i' j' k' : Nat) (pages stack types pages2 stack2 types2 : Int) (data data2 : List UInt8) (cs cs2 : List Nat) (rs rs2 : List Rl) (ss ss2 : List Nat)
theorem inH2_mem : ∀ x ∈ inH2 i j k i' j' k' cs cs2 rs rs2 ss ss2, (64 ≤ x.1 ∧ x.1 < 70) ∧ x.2.rw = false ∧ x.2.op = some (0, 0) ∧ ∀ u ∈ x.2.cells, flat0 u = true := by
  have one : ∀ (k g : Nat) (cells : List Value), (∀ u ∈ cells, flat0 u = true) → ∀ x ∈ slH k g cells, x.1 = g ∧ x.2.rw = false ∧ x.2.op = some (0, 0) ∧ ∀ u ∈ x.2.cells, flat0 u = true := by
    intro k g cells hf x hx
    unfold slH at hx
    split at hx
    · cases hx
    · cases hx
    · obtain rfl := List.mem_singleton.1 hx
      exact ⟨rfl, rfl, rfl, hf⟩
  intro x hx
  unfold inH2 inHg at hx
  simp only [List.mem_append] at hx
  rcases hx with ((hx | hx) | hx) | ((hx | hx) | hx)
  · obtain ⟨e1, e⟩ := one _ _ _ (u32s_flat cs) x hx; exact ⟨by omega, e⟩
  · obtain ⟨e1, e⟩ := one _ _ _ (rels_flat rs) x hx; exact ⟨by omega, e⟩
  · obtain ⟨e1, e⟩ := one _ _ _ (u32s_flat ss) x hx; exact ⟨by omega, e⟩
  · obtain ⟨e1, e⟩ := one _ _ _ (u32s_flat cs2) x hx; exact ⟨by omega, e⟩
  · obtain ⟨e1, e⟩ := one _ _ _ (rels_flat rs2) x hx; exact ⟨by omega, e⟩
  · obtain ⟨e1, e⟩ := one _ _ _ (u32s_flat ss2) x hx; exact ⟨by omega, e⟩
theorem own2_id (v : Value) (lo : List (Nat × Nat)) (cs0 : List Nat) (rs0 : List Rl) (ss0 : List Nat) : InId 3 (own2C v (inH2 i j k i' j' k' cs cs2 rs rs2 ss ss2) lo pages stack types data cs0 rs0 ss0) := by
  refine ⟨fun x hx => ?_, fun x hx _ => ?_⟩
  · obtain ⟨e1, e2, e3, e4⟩ := inH2_mem i j k i' j' k' cs cs2 rs rs2 ss ss2 x hx
    refine ⟨by show x.1 < 70; omega, fun q hq => ?_, e2, fun u hu => okV_flat0 (e4 u hu) 3⟩
    rw [e3] at hq; cases hq; show 0 < 70; omega
  · simp only [own2C, ownH, List.mem_cons, List.not_mem_nil, or_false] at hx
    rcases hx with rfl | rfl | rfl
    · exact u32s_flat _
    · exact rels_flat _
    · exact u32s_flat _
theorem okH2 : OkH (fun l => Nat.blt l 70) (inH2 i j k i' j' k' cs cs2 rs rs2 ss ss2) :=
  okH_append (okH_append (okH_append (slH_ok i (by decide) (by decide) (u32s_flat cs)) (slH_ok j (by decide) (by decide) (rels_flat rs))) (slH_ok k (by decide) (by decide) (u32s_flat ss)))
    (okH_append (okH_append (slH_ok i' (by decide) (by decide) (u32s_flat cs2)) (slH_ok j' (by decide) (by decide) (rels_flat rs2))) (slH_ok k' (by decide) (by decide) (u32s_flat ss2)))
theorem own2_any (a : Nat) (g : Nat) (pg st ty : Int) (da : List UInt8) (c0 : List Nat) (r0 : List Rl) (s0 : List Nat) (x y z : Nat) (hx : slOk x c0.length) (hy : slOk y r0.length) (hz : slOk z s0.length)
    (hg : g = 64 ∨ g = 67) (lo : List (Nat × Nat)) (hlo : lo.all (fun x => Nat.blt x.1 70) = true)
    (h1 : Nat.ble 2 x = true → Sy.look (inH2 i j k i' j' k' cs cs2 rs rs2 ss ss2) g = some ⟨false, some (0, 0), u32s c0, none⟩)
    (h2 : Nat.ble 2 y = true → Sy.look (inH2 i j k i' j' k' cs cs2 rs rs2 ss ss2) (g + 1) = some ⟨false, some (0, 0), rels r0, none⟩)
    (h3 : Nat.ble 2 z = true → Sy.look (inH2 i j k i' j' k' cs cs2 rs rs2 ss ss2) (g + 2) = some ⟨false, some (0, 0), u32s s0, none⟩)
    (l1 : loHas lo g c0.length) (l2 : loHas lo (g + 1) r0.length) (l3 : loHas lo (g + 2) s0.length) :
    ConOk Try.prog 9 3 (own2C (inVg g x y z pg st ty da c0 r0 s0) (inH2 i j k i' j' k' cs cs2 rs rs2 ss ss2) lo pg st ty da c0 r0 s0) := by
  have hown := own_conD x y z pg st ty da c0 r0 s0 hx hy hz
  have hsel : SelOk Try.prog 3 (fun f _ _ => bif Nat.beq f 9 then some (ownD (inV x y z pg st ty da c0 r0 s0) (inH x y z c0 r0 s0) pg st ty da c0 r0 s0, [g, g + 1, g + 2], True) else none) := by
    intro f args s c ρ q h _
    obtain ⟨e1, e2⟩ := bif_some h
    have e1 := Nat.eq_of_beq_eq_true e1
    subst e1
    cases e2
    exact hown
  have hx3 : x = 0 ∨ x = 1 ∨ x = 2 := by have := hx.1; omega
  have hy3 : y = 0 ∨ y = 1 ∨ y = 2 := by have := hy.1; omega
  have hz3 : z = 0 ∨ z = 1 ∨ z = 2 := by have := hz.1; omega
  have sA : ∀ (q n t : Nat), (q = 0 ∨ q = 1 ∨ q = 2) → (t = 0 ∨ t = 1 ∨ t = 2) → rnV (lift 67 70 [g, g + 1, g + 2]) 2 (sl q (64 + t) n) = sl q (g + t) n := by
    intro q n t hq ht
    rcases hg with rfl | rfl <;> rcases hq with rfl | rfl | rfl <;> rcases ht with rfl | rfl | rfl <;> kernel_rfl
  have hargs : inVg g x y z pg st ty da c0 r0 s0 = rnV (lift 67 70 [g, g + 1, g + 2]) 3 (inV x y z pg st ty da c0 r0 s0) := by
    show _ = Value.agg ⟨[.int .i64 pg, .int .i64 st, .int .i64 ty, rnV (lift 67 70 [g, g + 1, g + 2]) 2 (sl x 64 c0.length), .string ⟨⟨da⟩⟩, rnV (lift 67 70 [g, g + 1, g + 2]) 2 (sl y 65 r0.length), rnV (lift 67 70 [g, g + 1, g + 2]) 2 (sl z 66 s0.length)]⟩
    rw [show rnV (lift 67 70 [g, g + 1, g + 2]) 2 (sl x 64 c0.length) = _ from sA x _ 0 hx3 (.inl rfl), show rnV (lift 67 70 [g, g + 1, g + 2]) 2 (sl y 65 r0.length) = _ from sA y _ 1 hy3 (.inr (.inl rfl)), show rnV (lift 67 70 [g, g + 1, g + 2]) 2 (sl z 66 s0.length) = _ from sA z _ 2 hz3 (.inr (.inr rfl))]
    rfl
  have hinj : injB (lift 67 70 [g, g + 1, g + 2]) (inH x y z c0 r0 s0) = true := by
    rcases hg with rfl | rfl <;> rcases hx3 with rfl | rfl | rfl <;> rcases hy3 with rfl | rfl | rfl <;> rcases hz3 with rfl | rfl | rfl <;> kernel_rfl
  have hro : (inH x y z c0 r0 s0).all (fun y => !y.2.rw) = true := List.all_eq_true.2 fun x hx => by rw [(inH_mem x hx).2.1]; rfl
  have e64 : lift 67 70 [g, g + 1, g + 2] 64 = g := rfl
  have e65 : lift 67 70 [g, g + 1, g + 2] 65 = g + 1 := rfl
  have e66 : lift 67 70 [g, g + 1, g + 2] 66 = g + 2 := rfl
  have hseen : SeenH 3 (fun l => Nat.blt l 67) (lift 67 70 [g, g + 1, g + 2]) (inH2 i j k i' j' k' cs cs2 rs rs2 ss ss2) (inH x y z c0 r0 s0) :=
    seenH_append (seenH_append (seen_slH rfl rfl rfl (u32s_flat c0) (by rw [e64]; exact h1)) (seen_slH rfl rfl rfl (rels_flat r0) (by rw [e65]; exact h2))) (seen_slH rfl rfl rfl (u32s_flat s0) (by rw [e66]; exact h3))
  have hseenO : SeenO (fun l => Nat.blt l 67) (lift 67 70 [g, g + 1, g + 2]) lo (inLo c0 r0 s0) := ⟨⟨rfl, by rw [e64]; exact l1⟩, ⟨rfl, by rw [e65]; exact l2⟩, ⟨rfl, by rw [e66]; exact l3⟩, trivial⟩
  refine conOk_run (c := own2C (inVg g x y z pg st ty da c0 r0 s0) (inH2 i j k i' j' k' cs cs2 rs rs2 ss ss2) lo pg st ty da c0 r0 s0) (baseR_ok hsel (noBase_ok _)) ⟨by show NG ≤ 70; decide, by show 70 ≤ 73; omega, okH2 .., hlo, rfl, rfl, ?_, by kernel_rfl, fun q hq v hv => ?_⟩ (T := []) (p := fun l => Nat.blt l 73) (σ := id)
    (v := ownV pg st ty da c0 r0 s0 70 71 72) (s' := ⟨73, ownH c0 r0 s0 70 71 72 ++ inH2 i j k i' j' k' cs cs2 rs rs2 ss ss2, loD c0 r0 s0 70 71 72 ++ lo, 0, [], 0, True ∧ True ∧ sameA (lift 67 70 [g, g + 1, g + 2]) 3 [inVg g x y z pg st ty da c0 r0 s0] [inV x y z pg st ty da c0 r0 s0] ∧ (SeenH 3 (fun l => Nat.blt l 67) (lift 67 70 [g, g + 1, g + 2]) (inH2 i j k i' j' k' cs cs2 rs rs2 ss ss2) (inH x y z c0 r0 s0) ∧ injB (lift 67 70 [g, g + 1, g + 2]) (inH x y z c0 r0 s0) = true ∧ (inH x y z c0 r0 s0).all (fun y => !y.2.rw) = true) ∧ SeenO (fun l => Nat.blt l 67) (lift 67 70 [g, g + 1, g + 2]) lo (inLo c0 r0 s0)⟩) ?_ ⟨trivial, trivial, ⟨hargs, trivial⟩, ⟨hseen, hinj, hro⟩, hseenO⟩ ?_
  · show (([inVg g x y z pg st ty da c0 r0 s0] : List Value).all (okV (fun l => Nat.blt l 70) 3)) = true
    rcases hg with rfl | rfl <;> rcases hx3 with rfl | rfl | rfl <;> rcases hy3 with rfl | rfl | rfl <;> rcases hz3 with rfl | rfl | rfl <;> kernel_rfl
  · simp only [own2C, ownH, List.mem_cons, List.not_mem_nil, or_false] at hq
    rcases hq with rfl | rfl | rfl
    · exact okV_flat0 (u32s_flat _ v hv) 3
    · exact okV_flat0 (rels_flat _ v hv) 3
    · exact okV_flat0 (u32s_flat _ v hv) 3
  · have m1 : ∀ σ (l : List Nat), (u32s l).map (rnV σ 3) = u32s l := fun σ l => flat_map (u32s_flat l)
    have m2 : ∀ σ (l : List Rl), (rels l).map (rnV σ 3) = rels l := fun σ l => flat_map (rels_flat l)
    have hH : rnH (lift 67 70 [g, g + 1, g + 2]) 3 (ownH c0 r0 s0 67 68 69) = ownH c0 r0 s0 70 71 72 := by
      unfold rnH ownH rnB
      simp only [List.map_cons, List.map_nil, m1, m2]
      rfl
    have hu : (ownD (inV x y z pg st ty da c0 r0 s0) (inH x y z c0 r0 s0) pg st ty da c0 r0 s0).useR True 3 [g, g + 1, g + 2] [inVg g x y z pg st ty da c0 r0 s0] ⟨70, inH2 i j k i' j' k' cs cs2 rs rs2 ss ss2, lo, 0, [], 0, True⟩ =
        some (ownV pg st ty da c0 r0 s0 70 71 72, ⟨73, rnH (lift 67 70 [g, g + 1, g + 2]) 3 (ownH c0 r0 s0 67 68 69) ++ inH2 i j k i' j' k' cs cs2 rs rs2 ss ss2, loD c0 r0 s0 70 71 72 ++ lo, 0, [], 0, True ∧ True ∧ sameA (lift 67 70 [g, g + 1, g + 2]) 3 [inVg g x y z pg st ty da c0 r0 s0] [inV x y z pg st ty da c0 r0 s0] ∧ (SeenH 3 (fun l => Nat.blt l 67) (lift 67 70 [g, g + 1, g + 2]) (inH2 i j k i' j' k' cs cs2 rs rs2 ss ss2) (inH x y z c0 r0 s0) ∧ injB (lift 67 70 [g, g + 1, g + 2]) (inH x y z c0 r0 s0) = true ∧ (inH x y z c0 r0 s0).all (fun y => !y.2.rw) = true) ∧ SeenO (fun l => Nat.blt l 67) (lift 67 70 [g, g + 1, g + 2]) lo (inLo c0 r0 s0)⟩) := by
      kernel_rfl
    rw [hH] at hu
    exact hu
  · refine ⟨fun l hl => rfl, ⟨⟨rfl, flat_all (u32s_flat _), rfl, rfl, rfl, trivial, (flat_map (u32s_flat _)).symm⟩, ⟨rfl, flat_all (rels_flat _), rfl, rfl, rfl, trivial, (flat_map (rels_flat _)).symm⟩, ⟨rfl, flat_all (u32s_flat _), rfl, rfl, rfl, trivial, (flat_map (u32s_flat _)).symm⟩, trivial⟩, rfl, ⟨⟨rfl, Nat.le_refl _⟩, ⟨rfl, Nat.le_refl _⟩, ⟨rfl, Nat.le_refl _⟩, trivial⟩, ⟨by kernel_rfl, by kernel_rfl⟩, rfl, ⟨⟨rfl, rfl, flat_bnd (u32s_flat _)⟩, ⟨rfl, rfl, flat_bnd (rels_flat _)⟩, ⟨rfl, rfl, flat_bnd (u32s_flat _)⟩, trivial⟩, rfl, okV_bnd 3 _ (show okV (keeps 70 73 id (fun l => Nat.blt l 73)) 3 (ownV pg st ty da c0 r0 s0 70 71 72) = true from by kernel_rfl), fun q hq hrw => ?_⟩
    simp only [own2C, ownH, List.mem_cons, List.not_mem_nil, or_false] at hq
    rcases hq with rfl | rfl | rfl <;> cases hrw
theorem own2_a (hi : slOk i cs.length) (hj : slOk j rs.length) (hk : slOk k ss.length) :
    ConOk Try.prog 9 3 (own2C (inVg 64 i j k pages stack types data cs rs ss) (inH2 i j k i' j' k' cs cs2 rs rs2 ss ss2) (lo6 cs.length rs.length ss.length cs2.length rs2.length ss2.length) pages stack types data cs rs ss) := by
  refine own2_any i j k i' j' k' cs cs2 rs rs2 ss ss2 0 64 pages stack types data cs rs ss i j k hi hj hk (.inl rfl) _ rfl (fun h => ?_) (fun h => ?_) (fun h => ?_) (Nat.le_refl _) (Nat.le_refl _) (Nat.le_refl _)
  · unfold inH2; rw [look_append, inHg_look, look_slH, h]; rfl
  · unfold inH2; rw [look_append, inHg_look, look_slH, look_slH, h]; cases Nat.ble 2 i <;> rfl
  · unfold inH2; rw [look_append, inHg_look, look_slH, look_slH, look_slH, h]; cases Nat.ble 2 i <;> cases Nat.ble 2 j <;> rfl
theorem own2_b (hi : slOk i' cs2.length) (hj : slOk j' rs2.length) (hk : slOk k' ss2.length) :
    ConOk Try.prog 9 3 (own2C (inVg 67 i' j' k' pages2 stack2 types2 data2 cs2 rs2 ss2) (inH2 i j k i' j' k' cs cs2 rs rs2 ss ss2) (lo6 cs.length rs.length ss.length cs2.length rs2.length ss2.length) pages2 stack2 types2 data2 cs2 rs2 ss2) := by
  refine own2_any i j k i' j' k' cs cs2 rs rs2 ss ss2 0 67 pages2 stack2 types2 data2 cs2 rs2 ss2 i' j' k' hi hj hk (.inr rfl) _ rfl (fun h => ?_) (fun h => ?_) (fun h => ?_) (Nat.le_refl _) (Nat.le_refl _) (Nat.le_refl _)
  all_goals
    unfold inH2
    rw [look_append, inHg_look, inHg_look]
    simp only [look_slH, h]
    cases Nat.ble 2 i <;> cases Nat.ble 2 j <;> cases Nat.ble 2 k <;> first | rfl | (cases Nat.ble 2 i' <;> first | rfl | (cases Nat.ble 2 j' <;> rfl))
end
end Go.Proofs.Ytdljpnebpoaeiaa
namespace Go.Proofs.Ytdljpnebpoaeiaa
set_option linter.unusedVariables false
set_option linter.unusedSimpArgs false
open Go.RowKit
open Sy
def renF (n : Nat) (hn : NG ≤ n) (B O C : Nat → Nat) (S : Nat → Option Nat) : Ren :=
  ⟨fun l => if l < NG then l else B l, fun l => if l < NG then 0 else O l, fun l => (O l, S l), C, fun l => Nat.blt l n, fun _ h => if_pos h, fun _ h => if_pos h, fun _ h => blt_yes (Nat.lt_of_lt_of_le h hn)⟩
def pick6 {α : Type} (a b c d e f : α) (l : Nat) : α := if l = 64 then a else if l = 65 then b else if l = 66 then c else if l = 67 then d else if l = 68 then e else f
section
variable {W : World} {v1 v2 v3 v4 v5 v6 : Value} {i j k i' j' k' : Nat} {pages stack types pages2 stack2 types2 : Int} {data data2 : List UInt8} {cs cs2 : List Nat} {rs rs2 : List Rl} {ss ss2 : List Nat}
  {B1 O1 C1 B2 O2 C2 B3 O3 C3 B4 O4 C4 B5 O5 C5 B6 O6 C6 : Nat} {S1 S2 S3 S4 S5 S6 : Option Nat}
theorem in2_good (r : Ren) (h1 : SlIs W v1 i (u32s cs) cs.length B1 O1 C1 S1) (h2 : SlIs W v2 j (rels rs) rs.length B2 O2 C2 S2) (h3 : SlIs W v3 k (u32s ss) ss.length B3 O3 C3 S3)
    (h4 : SlIs W v4 i' (u32s cs2) cs2.length B4 O4 C4 S4) (h5 : SlIs W v5 j' (rels rs2) rs2.length B5 O5 C5 S5) (h6 : SlIs W v6 k' (u32s ss2) ss2.length B6 O6 C6 S6)
    (hr : r = renF 70 (by decide) (pick6 B1 B2 B3 B4 B5 B6) (pick6 O1 O2 O3 O4 O5 O6) (pick6 C1 C2 C3 C4 C5 C6) (pick6 S1 S2 S3 S4 S5 S6)) (T : List (Nat × Bool)) :
    Sy.Good r ⟨70, inH2 i j k i' j' k' cs cs2 rs rs2 ss ss2, lo6 cs.length rs.length ss.length cs2.length rs2.length ss2.length, 0, T, 0, True⟩ W := by
  subst hr
  have key : ∀ x ∈ inH2 i j k i' j' k' cs cs2 rs rs2 ss ss2, (64 ≤ x.1 ∧ x.1 < 70) ∧ x.2.rw = false ∧ x.2.op = some (0, 0) ∧ (∀ u ∈ x.2.cells, flat0 u = true) ∧ Sy.Is (renF 70 (by decide) (pick6 B1 B2 B3 B4 B5 B6) (pick6 O1 O2 O3 O4 O5 O6) (pick6 C1 C2 C3 C4 C5 C6) (pick6 S1 S2 S3 S4 S5 S6)) x.2 x.1 W := by
    intro x hx
    obtain ⟨e1, e2, e3, e4⟩ := inH2_mem i j k i' j' k' cs cs2 rs rs2 ss ss2 x hx
    refine ⟨e1, e2, e3, e4, ?_⟩
    unfold inH2 inHg at hx
    simp only [List.mem_append] at hx
    rcases hx with ((hx | hx) | hx) | ((hx | hx) | hx)
    · exact (sl_block (g := 64) h1 rfl rfl (u32s_flat cs) x hx).2.2.2.2
    · exact (sl_block (g := 65) h2 rfl rfl (rels_flat rs) x hx).2.2.2.2
    · exact (sl_block (g := 66) h3 rfl rfl (u32s_flat ss) x hx).2.2.2.2
    · exact (sl_block (g := 67) h4 rfl rfl (u32s_flat cs2) x hx).2.2.2.2
    · exact (sl_block (g := 68) h5 rfl rfl (rels_flat rs2) x hx).2.2.2.2
    · exact (sl_block (g := 69) h6 rfl rfl (u32s_flat ss2) x hx).2.2.2.2
  refine ⟨fun g k hk => (key _ (look_mem hk)).2.2.2.2, fun g g' k k' e1 e2 hrw _ => ?_, fun g k hk => ?_, fun x hx => ?_⟩
  · have := (key _ (look_mem e1)).2.1
    simp only [] at this
    rw [this] at hrw; cases hrw
  · obtain ⟨q1, _, q3, q4, _⟩ := key _ (look_mem hk)
    refine ⟨blt_yes q1.2, fun p hp => ?_, fun u hu => ⟨bnd_flat0 _ (q4 u hu), flat0_oneCell (q4 u hu)⟩⟩
    simp only [] at q3
    rw [q3] at hp
    cases hp
    rfl
  · simp only [lo6, List.mem_cons, List.not_mem_nil, or_false] at hx
    rcases hx with rfl | rfl | rfl | rfl | rfl | rfl
    · exact ⟨h1.le, rfl⟩
    · exact ⟨h2.le, rfl⟩
    · exact ⟨h3.le, rfl⟩
    · exact ⟨h4.le, rfl⟩
    · exact ⟨h5.le, rfl⟩
    · exact ⟨h6.le, rfl⟩
theorem inVg_bnd {d : Nat → Bool} {g : Nat} (h1 : d g = true) (h2 : d (g + 1) = true) (h3 : d (g + 2) = true) : bnd d (inVg g i j k pages stack types data cs rs ss) = true := by
  unfold inVg
  rw [bnd_agg, Array.all_eq_true_iff_forall_mem]
  have e1 : bnd d (sl i g cs.length) = true := sl_bnd h1
  have e2 : bnd d (sl j (g + 1) rs.length) = true := sl_bnd h2
  have e3 : bnd d (sl k (g + 2) ss.length) = true := sl_bnd h3
  intro u hu
  simp only [List.mem_toArray, List.mem_cons, List.not_mem_nil, or_false] at hu
  rcases hu with rfl | rfl | rfl | rfl | rfl | rfl | rfl
  · exact bnd_flat0 _ rfl
  · exact bnd_flat0 _ rfl
  · exact bnd_flat0 _ rfl
  · exact e1
  · exact bnd_flat0 _ rfl
  · exact e2
  · exact e3
theorem im2_walk {call : CallK} (hcall : SoundCall Try.prog call) {f : FuncId} (h1 : SlIs W v1 i (u32s cs) cs.length B1 O1 C1 S1) (h2 : SlIs W v2 j (rels rs) rs.length B2 O2 C2 S2) (h3 : SlIs W v3 k (u32s ss) ss.length B3 O3 C3 S3)
    (h4 : SlIs W v4 i' (u32s cs2) cs2.length B4 O4 C4 S4) (h5 : SlIs W v5 j' (rels rs2) rs2.length B5 O5 C5 S5) (h6 : SlIs W v6 k' (u32s ss2) ss2.length B6 O6 C6 S6)
    (run : ∃ (T : List (Nat × Bool)) (q : Prop), obs (call f [inVg 64 i j k pages stack types data cs rs ss, inVg 67 i' j' k' pages2 stack2 types2 data2 cs2 rs2 ss2] ⟨70, inH2 i j k i' j' k' cs cs2 rs rs2 ss ss2, lo6 cs.length rs.length ss.length cs2.length rs2.length ss2.length, 0, T, 0, True⟩) = some (.bool true, q) ∧ q) :
    Calls Try.prog f #[.agg ⟨[.int .i64 pages, .int .i64 stack, .int .i64 types, v1, .string ⟨⟨data⟩⟩, v2, v3]⟩, .agg ⟨[.int .i64 pages2, .int .i64 stack2, .int .i64 types2, v4, .string ⟨⟨data2⟩⟩, v5, v6]⟩] W fun e W' => e = .returned (.bool true) ∧ Below W.heap.size W W' := by
  obtain ⟨T, q, hr, hq⟩ := run
  have hg := in2_good (W := W) _ h1 h2 h3 h4 h5 h6 rfl T
  have hb : ∀ u ∈ [inVg 64 i j k pages stack types data cs rs ss, inVg 67 i' j' k' pages2 stack2 types2 data2 cs2 rs2 ss2], bnd (renF 70 (by decide) (pick6 B1 B2 B3 B4 B5 B6) (pick6 O1 O2 O3 O4 O5 O6) (pick6 C1 C2 C3 C4 C5 C6) (pick6 S1 S2 S3 S4 S5 S6)).d u = true := fun u hu => by
    simp only [List.mem_cons, List.not_mem_nil, or_false] at hu
    rcases hu with rfl | rfl
    · exact inVg_bnd rfl rfl rfl
    · exact inVg_bnd rfl rfl rfl
  have hw : WFn ⟨70, inH2 i j k i' j' k' cs cs2 rs rs2 ss ss2, lo6 cs.length rs.length ss.length cs2.length rs2.length ss2.length, 0, T, 0, True⟩ := ⟨fun g kb hk => (inH2_mem i j k i' j' k' cs cs2 rs rs2 ss ss2 _ (look_mem hk)).1.2, fun x hx => by
    simp only [lo6, List.mem_cons, List.not_mem_nil, or_false] at hx
    show x.1 < 70
    rcases hx with rfl | rfl | rfl | rfl | rfl | rfl <;> simp⟩
  have hro : (inH2 i j k i' j' k' cs cs2 rs rs2 ss ss2).all (fun y => !y.2.rw) = true := List.all_eq_true.2 fun x hx => by rw [(inH2_mem i j k i' j' k' cs cs2 rs rs2 ss ss2 x hx).2.1]; rfl
  have h := yes_ok hcall hr hq hw hro hg (fun l hl => blt_no hl) hb
  generalize hR : renF 70 (by decide) (pick6 B1 B2 B3 B4 B5 B6) (pick6 O1 O2 O3 O4 O5 O6) (pick6 C1 C2 C3 C4 C5 C6) (pick6 S1 S2 S3 S4 S5 S6) = r at h
  have e1 := sl_val (r := r) (g := 64) h1 (by subst hR; rfl) (by subst hR; rfl) (by subst hR; rfl) (by subst hR; rfl)
  have e2 := sl_val (r := r) (g := 65) h2 (by subst hR; rfl) (by subst hR; rfl) (by subst hR; rfl) (by subst hR; rfl)
  have e3 := sl_val (r := r) (g := 66) h3 (by subst hR; rfl) (by subst hR; rfl) (by subst hR; rfl) (by subst hR; rfl)
  have e4 := sl_val (r := r) (g := 67) h4 (by subst hR; rfl) (by subst hR; rfl) (by subst hR; rfl) (by subst hR; rfl)
  have e5 := sl_val (r := r) (g := 68) h5 (by subst hR; rfl) (by subst hR; rfl) (by subst hR; rfl) (by subst hR; rfl)
  have e6 := sl_val (r := r) (g := 69) h6 (by subst hR; rfl) (by subst hR; rfl) (by subst hR; rfl) (by subst hR; rfl)
  have ha : (Value.agg ⟨[.int .i64 pages, .int .i64 stack, .int .i64 types, v1, .string ⟨⟨data⟩⟩, v2, v3]⟩) = r.val (inVg 64 i j k pages stack types data cs rs ss) := by
    unfold inVg
    rw [val_agg]
    simp only [List.map_toArray, List.map_cons, List.map_nil, val_int, val_string, Nat.reduceAdd, ← e1, ← e2, ← e3]
  have hc : (Value.agg ⟨[.int .i64 pages2, .int .i64 stack2, .int .i64 types2, v4, .string ⟨⟨data2⟩⟩, v5, v6]⟩) = r.val (inVg 67 i' j' k' pages2 stack2 types2 data2 cs2 rs2 ss2) := by
    unfold inVg
    rw [val_agg]
    simp only [List.map_toArray, List.map_cons, List.map_nil, val_int, val_string, Nat.reduceAdd, ← e4, ← e5, ← e6]
  rw [ha, hc]
  exact h
end
end Go.Proofs.Ytdljpnebpoaeiaa
namespace Go.Proofs.Ytdljpnebpoaeiaa.Sy
open Go.RowKit
structure FlatC (c : Con) : Prop where
  flat : ∀ x ∈ c.h', x.2.op ≠ none → ∀ v ∈ x.2.cells, flat0 v = true
def headN : Nat → Heap → Heap
  | 0, _ => []
  | _, [] => []
  | m + 1, x :: h => x :: headN m h
theorem look_headN : ∀ (m : Nat) (h : Heap) (g : Nat) (k : Blk), look (headN m h) g = some k → look h g = some k
  | 0, h, g, k, e => by cases e
  | m + 1, [], g, k, e => by cases e
  | m + 1, x :: h, g, k, e => by
    simp only [headN] at e
    rw [look_cons] at e ⊢
    split at e
    · rename_i e'; rw [if_pos e']; exact e
    · rename_i e'; rw [if_neg e']; exact look_headN m h g k e
def forgetK (sel : FuncId → List Value → St → Option Nat) (b : CallK) : CallK := fun f args s => match sel f args s with
  | some m => (b f args s).map fun x => (x.1, { x.2 with h := headN m x.2.h })
  | none => b f args s
theorem forgetK_ok {P : Program} {sel : FuncId → List Value → St → Option Nat} {b : CallK} (hb : SoundCall P b) : SoundCall P (forgetK sel b) := by
  intro f args s v s' hc
  unfold forgetK at hc
  split at hc
  · rename_i m _
    obtain ⟨⟨v1, s1⟩, h1, h2⟩ := Option.map_eq_some_iff.1 hc
    simp only [Prod.mk.injEq] at h2
    obtain ⟨rfl, rfl⟩ := h2
    obtain ⟨hm, ho⟩ := hb f args s v1 s1 h1
    have sub := look_headN m s1.h
    refine ⟨⟨hm.1, hm.2.1, fun hw => ⟨fun g k hk => (hm.2.2 hw).1 g k (sub g k hk), (hm.2.2 hw).2⟩⟩, fun hO => ?_⟩
    obtain ⟨he, hcall⟩ := ho hO
    refine ⟨he, fun r w hwf hg hfr hbd => (hcall r w hwf hg hfr hbd).mono ?_⟩
    rintro e w' ⟨r', he, T, hb⟩
    exact ⟨r', he, ⟨T.ext, T.dom, T.le, T.good0, T.good.sub' (fun g k hk => ⟨k, sub g k hk, .inl rfl, rfl, rfl, id⟩) (fun _ h => h), T.os, T.tape, T.output, T.size, T.frame, fun g k hk => T.own g k (sub g k hk)⟩, hb⟩
  · exact hb f args s v s' hc
end Go.Proofs.Ytdljpnebpoaeiaa.Sy
namespace Go.Proofs.Ytdljpnebpoaeiaa
set_option linter.unusedVariables false
set_option linter.unusedSimpArgs false
open Go.RowKit
open Sy
set_option maxRecDepth 100000
def anV (pages stack types : Int) (data : List UInt8) (s1 s2 s3 : Value) : Value := .agg ⟨[.int .i64 pages, .int .i64 stack, .int .i64 types, s1, .string ⟨⟨data⟩⟩, s2, s3]⟩
def ow2V (pages stack types : Int) (dd : List UInt8) (nc nr ns a b c : Nat) : Value :=
  .agg ⟨[.int .i64 pages, .int .i64 stack, .int .i64 types, .slice (some ⟨a, 0, none⟩) nc (big + a), .string ⟨⟨dd⟩⟩, .slice (some ⟨b, 0, none⟩) nr (big + b), .slice (some ⟨c, 0, none⟩) ns (big + c)]⟩
def ow2H (co : List Nat) (ro : List Rl) (so : List Nat) (a b c : Nat) : Sy.Heap := [(c, ⟨true, some (c, 1), u32s so, none⟩), (b, ⟨true, some (b, 6), rels ro, none⟩), (a, ⟨true, some (a, 1), u32s co, none⟩)]
def ow2C (v : Value) (h : Sy.Heap) (lo : List (Nat × Nat)) (pages stack types : Int) (dd : List UInt8) (co : List Nat) (ro : List Rl) (so : List Nat) : Con :=
  ⟨[v], 67, h, lo, ow2V pages stack types dd co.length ro.length so.length 67 68 69, 70, ow2H co ro so 67 68 69, []⟩
def lo3 (a b c : Nat) : List (Nat × Nat) := [(64, a), (65, b), (66, c)]
def notF (l : List FuncId) (f : FuncId) : Bool := l.all fun g => !Nat.beq g f
def selIf (p : FuncId → Bool) (s : SelC) : SelC := fun f args st => bif p f then s f args st else none
theorem selIf_ok {P : Program} {d : Nat} {p : FuncId → Bool} {s : SelC} (h : SelOk P d s) : SelOk P d (selIf p s) := by
  intro f args st c ρ q h1 h2
  unfold selIf at h1
  obtain ⟨_, h3⟩ := bif_some h1
  exact h f args st c ρ q h3 h2
end Go.Proofs.Ytdljpnebpoaeiaa
namespace Go.Proofs.Ytdljpnebpoaeiaa
set_option linter.unusedVariables false
set_option linter.unusedSimpArgs false
open Go.RowKit
open Sy
def eqH (xs ys : List Nat) : Sy.Heap := [(64, ⟨false, some (0, 0), u32s xs, none⟩), (65, ⟨false, some (0, 0), u32s ys, none⟩)]
def eqI (xs ys : List Nat) (k : Nat) : Sf := ⟨66, [(0, .slice (some ⟨64, 0, none⟩) xs.length (big + 64)), (1, .slice (some ⟨65, 0, none⟩) ys.length (big + 65)), (12, .int .i64 (xs.length : Nat)), (13, .int .i64 (k : Nat))], eqH xs ys, []⟩
def eqF : Sf := ⟨66, [(4, .bool false)], [], []⟩
def eqN : Sf := ⟨66, [], [], []⟩
theorem eq_next (xs : List Nat) (ys : List Nat) (k : Nat) : evC Try.prog (evF Try.prog noBase noLoop 100 3) (noLoop 32) 26 100 (loopOf Try.prog 32 0) (Sf.frT 26 (eqI xs ys k) [(0, true), (1, false)]) = some (Exit.normal, { e := [[Value.slice (some { block := 64, off := 0 }) xs.length 9223372036854775872, Value.slice (some { block := 65, off := 0 }) ys.length 9223372036854775873, unk, unk, unk, Value.int IntKind.i64 (↑k : Int), unk, unk, unk, unk, unk, unk, Value.int IntKind.i64 (↑xs.length : Int), Value.int IntKind.i64 (IntKind.i64.wrap ((↑k : Int) + (1 : Int))), Value.bool (decide ((↑k : Int) < (↑xs.length : Int))), Value.int IntKind.i64 (↑k : Int)], [Value.slice (some { block := 64, off := 0 }) xs.length 9223372036854775872, Value.int IntKind.i64 (↑k : Int), Value.pointer (some { block := 64, off := 0 + (↑k : Int).toNat * 1 }), Value.int IntKind.u32 (intOf' (getD' undef (u32s xs) (0 + (↑k : Int).toNat * 1))), Value.slice (some { block := 65, off := 0 }) ys.length 9223372036854775873, Value.int IntKind.i64 (↑k : Int), Value.pointer (some { block := 65, off := 0 + (↑k : Int).toNat * 1 }), Value.int IntKind.u32 (intOf' (getD' undef (u32s ys) (0 + (↑k : Int).toNat * 1))), Value.bool (intOf' (getD' undef (u32s xs) (0 + (↑k : Int).toNat * 1)) != intOf' (getD' undef (u32s ys) (0 + (↑k : Int).toNat * 1))), Value.int IntKind.i64 (IntKind.i64.wrap ((↑k : Int) + (1 : Int))), unk, unk, unk, unk, unk, unk]], s := { n := 66, h := [(64, { rw := false, op := some (0, 0), cells := u32s xs, it := none : Sy.Blk }), (65, { rw := false, op := some (0, 0), cells := u32s ys, it := none : Sy.Blk })], lo := [], esc := 0, T := [], k := 2, O := (bif hasN (0 + (↑k : Int).toNat * 1 + 1) (u32s ys) && isLikeL [Value.int IntKind.u32 (0 : Int)] (u32s ys) (0 + (↑k : Int).toNat * 1) then bif decide ((0 : Int) ≤ (↑k : Int)) && decide ((↑k : Int) < (↑ys.length : Int)) then bif hasN (0 + (↑k : Int).toNat * 1 + 1) (u32s xs) && isLikeL [Value.int IntKind.u32 (0 : Int)] (u32s xs) (0 + (↑k : Int).toNat * 1) then bif decide ((0 : Int) ≤ (↑k : Int)) && decide ((↑k : Int) < (↑xs.length : Int)) then True ∧ decide ((↑k : Int) < (↑xs.length : Int)) = true else False else False else False else False) ∧ (intOf' (getD' undef (u32s xs) (0 + (↑k : Int).toNat * 1)) != intOf' (getD' undef (u32s ys) (0 + (↑k : Int).toNat * 1))) = false : St } : Fr }) := by kernel_rfl
theorem eq_bad (xs : List Nat) (ys : List Nat) (k : Nat) : evC Try.prog (evF Try.prog noBase noLoop 100 3) (noLoop 32) 26 100 (loopOf Try.prog 32 0) (Sf.frT 26 (eqI xs ys k) [(0, true), (1, true)]) = some (Exit.ret, { e := [[Value.slice (some { block := 64, off := 0 }) xs.length 9223372036854775872, Value.slice (some { block := 65, off := 0 }) ys.length 9223372036854775873, unk, unk, Value.bool false, Value.int IntKind.i64 (↑k : Int), unk, unk, unk, unk, unk, unk, Value.int IntKind.i64 (↑xs.length : Int), Value.int IntKind.i64 (↑k : Int), Value.bool (decide ((↑k : Int) < (↑xs.length : Int))), Value.int IntKind.i64 (↑k : Int)], [Value.slice (some { block := 64, off := 0 }) xs.length 9223372036854775872, Value.int IntKind.i64 (↑k : Int), Value.pointer (some { block := 64, off := 0 + (↑k : Int).toNat * 1 }), Value.int IntKind.u32 (intOf' (getD' undef (u32s xs) (0 + (↑k : Int).toNat * 1))), Value.slice (some { block := 65, off := 0 }) ys.length 9223372036854775873, Value.int IntKind.i64 (↑k : Int), Value.pointer (some { block := 65, off := 0 + (↑k : Int).toNat * 1 }), Value.int IntKind.u32 (intOf' (getD' undef (u32s ys) (0 + (↑k : Int).toNat * 1))), Value.bool (intOf' (getD' undef (u32s xs) (0 + (↑k : Int).toNat * 1)) != intOf' (getD' undef (u32s ys) (0 + (↑k : Int).toNat * 1))), unk, unk, unk, unk, unk, unk, unk]], s := { n := 66, h := [(64, { rw := false, op := some (0, 0), cells := u32s xs, it := none : Sy.Blk }), (65, { rw := false, op := some (0, 0), cells := u32s ys, it := none : Sy.Blk })], lo := [], esc := 0, T := [], k := 2, O := (bif hasN (0 + (↑k : Int).toNat * 1 + 1) (u32s ys) && isLikeL [Value.int IntKind.u32 (0 : Int)] (u32s ys) (0 + (↑k : Int).toNat * 1) then bif decide ((0 : Int) ≤ (↑k : Int)) && decide ((↑k : Int) < (↑ys.length : Int)) then bif hasN (0 + (↑k : Int).toNat * 1 + 1) (u32s xs) && isLikeL [Value.int IntKind.u32 (0 : Int)] (u32s xs) (0 + (↑k : Int).toNat * 1) then bif decide ((0 : Int) ≤ (↑k : Int)) && decide ((↑k : Int) < (↑xs.length : Int)) then True ∧ decide ((↑k : Int) < (↑xs.length : Int)) = true else False else False else False else False) ∧ (intOf' (getD' undef (u32s xs) (0 + (↑k : Int).toNat * 1)) != intOf' (getD' undef (u32s ys) (0 + (↑k : Int).toNat * 1))) = true : St } : Fr }) := by kernel_rfl
theorem eq_end (xs : List Nat) (ys : List Nat) (k : Nat) : evC Try.prog (evF Try.prog noBase noLoop 100 3) (noLoop 32) 26 100 (loopOf Try.prog 32 0) (Sf.frT 26 (eqI xs ys k) [(0, false)]) = some (Exit.exit 0, { e := [[Value.slice (some { block := 64, off := 0 }) xs.length 9223372036854775872, Value.slice (some { block := 65, off := 0 }) ys.length 9223372036854775873, unk, unk, unk, unk, unk, unk, unk, unk, unk, unk, Value.int IntKind.i64 (↑xs.length : Int), Value.int IntKind.i64 (↑k : Int), Value.bool (decide ((↑k : Int) < (↑xs.length : Int))), unk], [unk, unk, unk, unk, unk, unk, unk, unk, unk, unk, unk, unk, unk, unk, unk, unk]], s := { n := 66, h := [(64, { rw := false, op := some (0, 0), cells := u32s xs, it := none : Sy.Blk }), (65, { rw := false, op := some (0, 0), cells := u32s ys, it := none : Sy.Blk })], lo := [], esc := 0, T := [], k := 1, O := True ∧ decide ((↑k : Int) < (↑xs.length : Int)) = false : St } : Fr }) := by kernel_rfl
theorem eq_wf (xs ys : List Nat) (k : Nat) : (eqI xs ys k).Wf :=
  ⟨by show NG ≤ 66; decide, Sf.Ok.mk' 3 ⟨⟨rfl, rfl, flat_bnd (u32s_flat xs)⟩, ⟨rfl, rfl, flat_bnd (u32s_flat ys)⟩, trivial⟩ rfl (fun x hx => by
    have : (eqI xs ys k).e.all (fun x => okV (fun l => Nat.blt l 66) 3 x.2) = true := by kernel_rfl
    exact List.all_eq_true.1 this x hx)⟩
theorem eqF_ok : eqF.Ok (keeps 66 66 id (fun l => Nat.blt l 66)) := Sf.Ok.mk' 3 trivial rfl (fun x hx => by
    have : eqF.e.all (fun x => okV (keeps 66 66 id (fun l => Nat.blt l 66)) 3 x.2) = true := by kernel_rfl
    exact List.all_eq_true.1 this x hx)
theorem eqN_ok : eqN.Ok (keeps 66 66 id (fun l => Nat.blt l 66)) := Sf.Ok.mk' 3 trivial rfl (fun x hx => by cases hx)
theorem eq_step_next (xs ys : List Nat) (k : Nat) (e : Sf) (hm : xs.length < 9000000000000000000) (hk : k < xs.length) (hl : ys.length = xs.length) (hv : xs.getD k 0 = ys.getD k 0) (hn : e.n = 66) (he : e.Ok (keeps 66 66 id (fun l => Nat.blt l 66))) :
    ∃ g, evC Try.prog (evF Try.prog noBase noLoop 100 3) (noLoop 32) 26 100 (loopOf Try.prog 32 0) ((eqI xs ys k).frT 26 [(0, true), (1, false)]) = some (.normal, g) ∧ g.s.O ∧ Sf.Leads 3 (fun l => Nat.blt l 66) id (eqI xs ys k) g (eqI xs ys (k + 1)) e := by
  refine ⟨_, eq_next xs ys k, ?_, ?_⟩
  · simp only [u32s_has, u32s_like, u32s_at, Int.toNat_natCast, Nat.zero_add, Nat.mul_one, hv]
    exact ⟨bif_true (by simp; omega) (bif_true (by simp; omega) (bif_true (by simp; omega) (bif_true (by simp; omega) ⟨trivial, by simp; omega⟩))), by simp⟩
  · refine ⟨fun _ _ => rfl, ⟨⟨rfl, flat_all (u32s_flat xs), rfl, rfl, rfl, trivial, (flat_map (u32s_flat xs)).symm⟩, ⟨rfl, flat_all (u32s_flat ys), rfl, rfl, rfl, trivial, (flat_map (u32s_flat ys)).symm⟩, trivial⟩, rfl, trivial, ⟨⟨by kernel_rfl, by kernel_rfl⟩, ⟨by kernel_rfl, by kernel_rfl⟩, ⟨rfl, by kernel_rfl⟩, ⟨rfl, ?_⟩, trivial⟩, Nat.le_refl _, fun l hl => blt_no hl, ?_, ?_⟩
    · refine Eq.trans (b := Value.int .i64 (IntKind.i64.wrap ((k : Int) + 1))) (by kernel_rfl) ?_
      rw [cast_succ_i64 k (by omega)]; rfl
    · rw [hn]; exact he
    · intro x _ _; exact .inl rfl
theorem eq_step_bad (xs ys : List Nat) (k : Nat) (hk : k < xs.length) (hl : ys.length = xs.length) (hv : xs.getD k 0 ≠ ys.getD k 0) :
    ∃ g, evC Try.prog (evF Try.prog noBase noLoop 100 3) (noLoop 32) 26 100 (loopOf Try.prog 32 0) ((eqI xs ys k).frT 26 [(0, true), (1, true)]) = some (.ret, g) ∧ g.s.O ∧ Sf.Leads 3 (fun l => Nat.blt l 66) id (eqI xs ys k) g eqF eqF := by
  refine ⟨_, eq_bad xs ys k, ?_, ?_⟩
  · simp only [u32s_has, u32s_like, u32s_at, Int.toNat_natCast, Nat.zero_add, Nat.mul_one]
    exact ⟨bif_true (by simp; omega) (bif_true (by simp; omega) (bif_true (by simp; omega) (bif_true (by simp; omega) ⟨trivial, by simp; omega⟩))), by rw [bne_iff_ne]; omega⟩
  · exact ⟨fun _ _ => rfl, trivial, rfl, trivial, ⟨⟨by kernel_rfl, by kernel_rfl⟩, trivial⟩, Nat.le_refl _, fun l hl => blt_no hl, eqF_ok, fun x hx => by cases hx⟩
theorem eq_step_end (xs ys : List Nat) (k : Nat) (hk : k = xs.length) :
    ∃ g, evC Try.prog (evF Try.prog noBase noLoop 100 3) (noLoop 32) 26 100 (loopOf Try.prog 32 0) ((eqI xs ys k).frT 26 [(0, false)]) = some (.exit 0, g) ∧ g.s.O ∧ Sf.Leads 3 (fun l => Nat.blt l 66) id (eqI xs ys k) g eqN eqN := by
  refine ⟨_, eq_end xs ys k, ?_, ?_⟩
  · subst hk; simp
  · exact ⟨fun _ _ => rfl, trivial, rfl, trivial, trivial, Nat.le_refl _, fun l hl => blt_no hl, eqN_ok, fun x hx => by cases hx⟩
theorem eq_found (xs ys : List Nat) (j : Nat) (hm : xs.length < 9000000000000000000) (hl : ys.length = xs.length) (hj : j < xs.length) (hv : xs.getD j 0 ≠ ys.getD j 0) (hn : ∀ i, i < j → xs.getD i 0 = ys.getD i 0) :
    ∀ x : { k : Nat // k ≤ j }, LoopOk Try.prog 26 (loopOf Try.prog 32 0) ((eqI xs ys x.1).fr 26) .ret (eqF.fr 26) := by
  refine loop_ok (L := 100) (run_ok (L := 100) i_names (noBase_ok _) (noLoop_ok _) 3) (noLoop_any _ _ 32) (fun _ h => h) (X := { k : Nat // k ≤ j }) (fun x => eqI xs ys x.1) (fun _ => eqF) (fun _ => .ret) (fun x => j - x.1) (fun x => eq_wf xs ys x.1) ?_
  rintro ⟨k, hk⟩
  by_cases h : k = j
  · subst h
    obtain ⟨g, h1, h2, h3⟩ := eq_step_bad xs ys k hj hl hv
    exact ⟨_, .ret, g, 3, _, _, h1, h2, .inr ⟨by simp, rfl, h3⟩⟩
  · obtain ⟨g, h1, h2, h3⟩ := eq_step_next xs ys k eqF hm (by omega) hl (hn k (by omega)) rfl eqF_ok
    exact ⟨_, .normal, g, 3, _, _, h1, h2, .inl ⟨rfl, ⟨k + 1, by omega⟩, by show j - (k + 1) < j - k; omega, rfl, rfl, h3⟩⟩
theorem eq_none (xs ys : List Nat) (hm : xs.length < 9000000000000000000) (hl : ys.length = xs.length) (hn : ∀ i, i < xs.length → xs.getD i 0 = ys.getD i 0) :
    ∀ x : { k : Nat // k ≤ xs.length }, LoopOk Try.prog 26 (loopOf Try.prog 32 0) ((eqI xs ys x.1).fr 26) (.exit 0) (eqN.fr 26) := by
  refine loop_ok (L := 100) (run_ok (L := 100) i_names (noBase_ok _) (noLoop_ok _) 3) (noLoop_any _ _ 32) (fun _ h => h) (X := { k : Nat // k ≤ xs.length }) (fun x => eqI xs ys x.1) (fun _ => eqN) (fun _ => .exit 0) (fun x => xs.length - x.1) (fun x => eq_wf xs ys x.1) ?_
  rintro ⟨k, hk⟩
  by_cases h : k < xs.length
  · obtain ⟨g, h1, h2, h3⟩ := eq_step_next xs ys k eqN hm h hl (hn k h) rfl eqN_ok
    exact ⟨_, .normal, g, 3, _, _, h1, h2, .inl ⟨rfl, ⟨k + 1, by omega⟩, by show xs.length - (k + 1) < xs.length - k; omega, rfl, rfl, h3⟩⟩
  · obtain ⟨g, h1, h2, h3⟩ := eq_step_end xs ys k (by omega)
    exact ⟨_, .exit 0, g, 3, _, _, h1, h2, .inr ⟨by simp, rfl, h3⟩⟩
def eqEntF (xs ys : List Nat) (j : Nat) (hm : xs.length < 9000000000000000000) (hl : ys.length = xs.length) (hj : j < xs.length) (hv : xs.getD j 0 ≠ ys.getD j 0) (hn : ∀ i, i < j → xs.getD i 0 = ys.getD i 0) : Ent Try.prog :=
  entC Try.prog 32 0 26 (eqI xs ys 0) .ret eqF (by kernel_rfl) (by kernel_rfl) (eq_found xs ys j hm hl hj hv hn ⟨0, Nat.zero_le _⟩)
def eqEntN (xs ys : List Nat) (hm : xs.length < 9000000000000000000) (hl : ys.length = xs.length) (hn : ∀ i, i < xs.length → xs.getD i 0 = ys.getD i 0) : Ent Try.prog :=
  entC Try.prog 32 0 26 (eqI xs ys 0) (.exit 0) eqN (by kernel_rfl) (by kernel_rfl) (eq_none xs ys hm hl hn ⟨0, Nat.zero_le _⟩)
end Go.Proofs.Ytdljpnebpoaeiaa
namespace Go.Proofs.Ytdljpnebpoaeiaa
set_option linter.unusedVariables false
set_option linter.unusedSimpArgs false
open Go.RowKit
open Sy
theorem eqf_len (xs : List Nat) (ys : List Nat) : evF Try.prog noBase noLoop 100 10 32 [Value.slice (some { block := 64, off := 0 }) xs.length (big + 64), Value.slice (some { block := 65, off := 0 }) ys.length (big + 65)] { n := 66, h := eqH xs ys, lo := [], esc := 0, T := [(0, true)], k := 0, O := True : St } = some (Value.bool false, { n := 66, h := [(64, { rw := false, op := some (0, 0), cells := u32s xs, it := none : Sy.Blk }), (65, { rw := false, op := some (0, 0), cells := u32s ys, it := none : Sy.Blk })], lo := [], esc := 0, T := [], k := 1, O := True ∧ ((↑xs.length : Int) != (↑ys.length : Int)) = true : St }) := by kernel_rfl
theorem eqf_bad (xs : List Nat) (ys : List Nat) (j : Nat) (hm : xs.length < 9000000000000000000) (hl : ys.length = xs.length) (hj : j < xs.length) (hv : xs.getD j 0 ≠ ys.getD j 0) (hn : ∀ (i : Nat), i < j → xs.getD i 0 = ys.getD i 0) : evF Try.prog noBase (lpOf [eqEntF xs ys j hm hl hj hv hn]) 100 10 32 [Value.slice (some { block := 64, off := 0 }) xs.length (big + 64), Value.slice (some { block := 65, off := 0 }) ys.length (big + 65)] { n := 66, h := eqH xs ys, lo := [], esc := 0, T := [(0, false)], k := 0, O := True : St } = some (Value.bool false, { n := 66, h := [(64, { rw := false, op := some (0, 0), cells := u32s xs, it := none : Sy.Blk }), (65, { rw := false, op := some (0, 0), cells := u32s ys, it := none : Sy.Blk })], lo := [], esc := 0, T := [], k := 1, O := (True ∧ ((↑xs.length : Int) != (↑ys.length : Int)) = false) ∧ (Value.slice (some { block := 64, off := 0 }) xs.length 9223372036854775872 = Value.slice (some { block := 64, off := 0 }) xs.length 9223372036854775872 ∧ Value.slice (some { block := 65, off := 0 }) ys.length 9223372036854775873 = Value.slice (some { block := 65, off := 0 }) ys.length 9223372036854775873 ∧ Value.int IntKind.i64 (↑xs.length : Int) = Value.int IntKind.i64 (↑xs.length : Int) ∧ Value.int IntKind.i64 (0 : Int) = Value.int IntKind.i64 (0 : Int) ∧ True) ∧ ((true = true ∧ true = true ∧ True ∧ u32s xs = u32s xs) ∧ (true = true ∧ true = true ∧ True ∧ u32s ys = u32s ys) ∧ True) ∧ True ∧ True : St }) := by kernel_rfl
theorem eqf_ok (xs : List Nat) (ys : List Nat) (hm : xs.length < 9000000000000000000) (hl : ys.length = xs.length) (hn : ∀ (i : Nat), i < xs.length → xs.getD i 0 = ys.getD i 0) : evF Try.prog noBase (lpOf [eqEntN xs ys hm hl hn]) 100 10 32 [Value.slice (some { block := 64, off := 0 }) xs.length (big + 64), Value.slice (some { block := 65, off := 0 }) ys.length (big + 65)] { n := 66, h := eqH xs ys, lo := [], esc := 0, T := [(0, false)], k := 0, O := True : St } = some (Value.bool true, { n := 66, h := [(64, { rw := false, op := some (0, 0), cells := u32s xs, it := none : Sy.Blk }), (65, { rw := false, op := some (0, 0), cells := u32s ys, it := none : Sy.Blk })], lo := [], esc := 0, T := [], k := 1, O := (True ∧ ((↑xs.length : Int) != (↑ys.length : Int)) = false) ∧ (Value.slice (some { block := 64, off := 0 }) xs.length 9223372036854775872 = Value.slice (some { block := 64, off := 0 }) xs.length 9223372036854775872 ∧ Value.slice (some { block := 65, off := 0 }) ys.length 9223372036854775873 = Value.slice (some { block := 65, off := 0 }) ys.length 9223372036854775873 ∧ Value.int IntKind.i64 (↑xs.length : Int) = Value.int IntKind.i64 (↑xs.length : Int) ∧ Value.int IntKind.i64 (0 : Int) = Value.int IntKind.i64 (0 : Int) ∧ True) ∧ ((true = true ∧ true = true ∧ True ∧ u32s xs = u32s xs) ∧ (true = true ∧ true = true ∧ True ∧ u32s ys = u32s ys) ∧ True) ∧ True ∧ True : St }) := by kernel_rfl
def eqC (xs ys : List Nat) : Con := ⟨[.slice (some ⟨64, 0, none⟩) xs.length (big + 64), .slice (some ⟨65, 0, none⟩) ys.length (big + 65)], 66, eqH xs ys, [], .bool (decide (xs = ys)), 66, [], []⟩
theorem eq_len (xs ys : List Nat) (h : xs.length ≠ ys.length) : decide (xs = ys) = false := by
  rw [decide_eq_false_iff_not]; intro e; rw [e] at h; exact h rfl
theorem eq_iff (xs ys : List Nat) (hl : ys.length = xs.length) : xs = ys ↔ ∀ i, i < xs.length → xs.getD i 0 = ys.getD i 0 := by
  constructor
  · rintro rfl i _; rfl
  · intro h
    apply List.ext_getElem hl.symm
    intro i h1 h2
    have := h i h1
    rw [List.getD_eq_getElem?_getD, List.getD_eq_getElem?_getD, List.getElem?_eq_getElem h1, List.getElem?_eq_getElem h2] at this
    simpa using this
theorem eq_wfC (xs ys : List Nat) (v : Bool) : (⟨[.slice (some ⟨64, 0, none⟩) xs.length (big + 64), .slice (some ⟨65, 0, none⟩) ys.length (big + 65)], 66, eqH xs ys, [], .bool v, 66, [], []⟩ : Con).Wf 3 :=
  ⟨by show NG ≤ 66; decide, Nat.le_refl _, ⟨⟨rfl, rfl, flat_bnd (u32s_flat xs)⟩, ⟨rfl, rfl, flat_bnd (u32s_flat ys)⟩, trivial⟩, rfl, rfl, rfl, by kernel_rfl, rfl, fun x hx => by cases hx⟩
theorem eq_any {lp : FuncId → LoopK} (hlp : SoundCall Try.prog (evF Try.prog noBase lp 100 10)) {xs ys : List Nat} {T : List (Nat × Bool)} {v v' : Bool} {s' : St}
    (h : evF Try.prog noBase lp 100 10 32 [.slice (some ⟨64, 0, none⟩) xs.length (big + 64), .slice (some ⟨65, 0, none⟩) ys.length (big + 65)] ⟨66, eqH xs ys, [], 0, T, 0, True⟩ = some (.bool v, s')) (hv : v = v') (hO : s'.O) :
    ConOk Try.prog 32 3 ⟨[.slice (some ⟨64, 0, none⟩) xs.length (big + 64), .slice (some ⟨65, 0, none⟩) ys.length (big + 65)], 66, eqH xs ys, [], .bool v', 66, [], []⟩ := by
  subst hv
  refine conOk_run (T := T) hlp (eq_wfC xs ys v) h hO (p := fun l => Nat.blt l 66) (σ := id) ?_
  exact ⟨fun _ _ => rfl, trivial, rfl, trivial, ⟨rfl, rfl⟩, rfl, trivial, rfl, bnd_flat0 _ rfl, fun x hx => by cases hx⟩
theorem eq_con (xs ys : List Nat) (hm : xs.length < 9000000000000000000) : ConOk Try.prog 32 3 (eqC xs ys) := by
  by_cases hl : ys.length = xs.length
  · have hl' : (((xs.length : Nat) : Int) != ((ys.length : Nat) : Int)) = false := by rw [hl]; simp
    by_cases hn : ∀ i, i < xs.length → xs.getD i 0 = ys.getD i 0
    · have hh := eqf_ok xs ys hm hl hn
      refine eq_any (run_ok i_names (noBase_ok _) (lpOf_ok _) 10) hh (by symm; rw [decide_eq_true_eq]; exact (eq_iff xs ys hl).2 hn) ?_
      simp only [hl']
      repeat' (with_reducible apply And.intro)
      all_goals first | with_reducible trivial | with_reducible rfl
    · have hf : ((List.range xs.length).any fun i => decide (xs.getD i 0 ≠ ys.getD i 0)) = true := by
        rw [List.any_eq_true]
        obtain ⟨i, hi⟩ := Classical.not_forall.1 hn
        obtain ⟨h1, h2⟩ := Classical.not_imp.1 hi
        exact ⟨i, List.mem_range.2 h1, by simpa using h2⟩
      obtain ⟨j, hj, hv, hb⟩ := first_of _ _ hf
      have hh := eqf_bad xs ys j hm hl hj (by simpa using hv) (fun i hij => by have := hb i hij; simpa using this)
      refine eq_any (run_ok i_names (noBase_ok _) (lpOf_ok _) 10) hh (by symm; rw [decide_eq_false_iff_not]; exact fun e => hn ((eq_iff xs ys hl).1 e)) ?_
      simp only [hl']
      repeat' (with_reducible apply And.intro)
      all_goals first | with_reducible trivial | with_reducible rfl
  · have hh := eqf_len xs ys
    have hl' : (((xs.length : Nat) : Int) != ((ys.length : Nat) : Int)) = true := by rw [bne_iff_ne]; omega
    refine eq_any (run_ok i_names (noBase_ok _) (noLoop_ok _) 10) hh (eq_len xs ys (by omega)).symm ?_
    simp only [hl']
    repeat' (with_reducible apply And.intro)
    all_goals first | with_reducible trivial | with_reducible rfl
end Go.Proofs.Ytdljpnebpoaeiaa
namespace Go.Proofs.Ytdljpnebpoaeiaa
set_option linter.unusedVariables false
set_option linter.unusedSimpArgs false
open Go.RowKit
open Sy
def esH (xs ys : List Rl) : Sy.Heap := [(64, ⟨false, some (0, 0), rels xs, none⟩), (65, ⟨false, some (0, 0), rels ys, none⟩)]
def esI (xs ys : List Rl) (k : Nat) : Sf := ⟨66, [(0, .slice (some ⟨64, 0, none⟩) xs.length (big + 64)), (1, .slice (some ⟨65, 0, none⟩) ys.length (big + 65)), (12, .int .i64 (xs.length : Nat)), (13, .int .i64 (k : Nat))], esH xs ys, []⟩
def esF : Sf := ⟨66, [(4, .bool false)], [], []⟩
def esN : Sf := ⟨66, [], [], []⟩
def rlB (a b : Rl) : Bool := ((a.at_ : Int) == (b.at_ : Int)) && ((a.code == b.code) && (((a.off : Int) == (b.off : Int)) && (((a.size : Int) == (b.size : Int)) && (((a.perms : Int) == (b.perms : Int)) && (((a.typ : Int) == (b.typ : Int)) && true)))))
def relsB (xs ys : List Rl) : Bool := decide (xs.length = ys.length) && (List.range xs.length).all fun i => rlB (rl0 xs i) (rl0 ys i)
theorem es_next (xs : List Rl) (ys : List Rl) (k : Nat) : evC Try.prog (evF Try.prog noBase noLoop 100 3) (noLoop 33) 26 100 (loopOf Try.prog 33 0) (Sf.frT 26 (esI xs ys k) [(0, true), (1, false)]) = some (Exit.normal, { e := [[Value.slice (some { block := 64, off := 0 }) xs.length 9223372036854775872, Value.slice (some { block := 65, off := 0 }) ys.length 9223372036854775873, unk, unk, unk, Value.int IntKind.i64 (↑k : Int), unk, unk, unk, unk, unk, unk, Value.int IntKind.i64 (↑xs.length : Int), Value.int IntKind.i64 (IntKind.i64.wrap ((↑k : Int) + (1 : Int))), Value.bool (decide ((↑k : Int) < (↑xs.length : Int))), Value.int IntKind.i64 (↑k : Int)], [Value.slice (some { block := 64, off := 0 }) xs.length 9223372036854775872, Value.int IntKind.i64 (↑k : Int), Value.pointer (some { block := 64, off := 0 + (↑k : Int).toNat * 6 }), Value.agg { toList := [Value.int IntKind.u32 (intOf' (getD' undef (rels xs) (0 + (↑k : Int).toNat * 6))), Value.bool (boolOf' (getD' undef (rels xs) (0 + (↑k : Int).toNat * 6 + 1))), Value.int IntKind.u32 (intOf' (getD' undef (rels xs) (0 + (↑k : Int).toNat * 6 + 1 + 1))), Value.int IntKind.u32 (intOf' (getD' undef (rels xs) (0 + (↑k : Int).toNat * 6 + 1 + 1 + 1))), Value.int IntKind.u16 (intOf' (getD' undef (rels xs) (0 + (↑k : Int).toNat * 6 + 1 + 1 + 1 + 1))), Value.int IntKind.u16 (intOf' (getD' undef (rels xs) (0 + (↑k : Int).toNat * 6 + 1 + 1 + 1 + 1 + 1)))] }, Value.slice (some { block := 65, off := 0 }) ys.length 9223372036854775873, Value.int IntKind.i64 (↑k : Int), Value.pointer (some { block := 65, off := 0 + (↑k : Int).toNat * 6 }), Value.agg { toList := [Value.int IntKind.u32 (intOf' (getD' undef (rels ys) (0 + (↑k : Int).toNat * 6))), Value.bool (boolOf' (getD' undef (rels ys) (0 + (↑k : Int).toNat * 6 + 1))), Value.int IntKind.u32 (intOf' (getD' undef (rels ys) (0 + (↑k : Int).toNat * 6 + 1 + 1))), Value.int IntKind.u32 (intOf' (getD' undef (rels ys) (0 + (↑k : Int).toNat * 6 + 1 + 1 + 1))), Value.int IntKind.u16 (intOf' (getD' undef (rels ys) (0 + (↑k : Int).toNat * 6 + 1 + 1 + 1 + 1))), Value.int IntKind.u16 (intOf' (getD' undef (rels ys) (0 + (↑k : Int).toNat * 6 + 1 + 1 + 1 + 1 + 1)))] }, Value.bool !(intOf' (getD' undef (rels xs) (0 + (↑k : Int).toNat * 6)) == intOf' (getD' undef (rels ys) (0 + (↑k : Int).toNat * 6)) && (boolOf' (getD' undef (rels xs) (0 + (↑k : Int).toNat * 6 + 1)) == boolOf' (getD' undef (rels ys) (0 + (↑k : Int).toNat * 6 + 1)) && (intOf' (getD' undef (rels xs) (0 + (↑k : Int).toNat * 6 + 1 + 1)) == intOf' (getD' undef (rels ys) (0 + (↑k : Int).toNat * 6 + 1 + 1)) && (intOf' (getD' undef (rels xs) (0 + (↑k : Int).toNat * 6 + 1 + 1 + 1)) == intOf' (getD' undef (rels ys) (0 + (↑k : Int).toNat * 6 + 1 + 1 + 1)) && (intOf' (getD' undef (rels xs) (0 + (↑k : Int).toNat * 6 + 1 + 1 + 1 + 1)) == intOf' (getD' undef (rels ys) (0 + (↑k : Int).toNat * 6 + 1 + 1 + 1 + 1)) && (intOf' (getD' undef (rels xs) (0 + (↑k : Int).toNat * 6 + 1 + 1 + 1 + 1 + 1)) == intOf' (getD' undef (rels ys) (0 + (↑k : Int).toNat * 6 + 1 + 1 + 1 + 1 + 1)) && true)))))), Value.int IntKind.i64 (IntKind.i64.wrap ((↑k : Int) + (1 : Int))), unk, unk, unk, unk, unk, unk]], s := { n := 66, h := [(64, { rw := false, op := some (0, 0), cells := rels xs, it := none : Sy.Blk }), (65, { rw := false, op := some (0, 0), cells := rels ys, it := none : Sy.Blk })], lo := [], esc := 0, T := [], k := 2, O := (bif hasN (0 + (↑k : Int).toNat * 6 + 6) (rels ys) && isLikeL [Value.int IntKind.u32 (0 : Int), Value.bool false, Value.int IntKind.u32 (0 : Int), Value.int IntKind.u32 (0 : Int), Value.int IntKind.u16 (0 : Int), Value.int IntKind.u16 (0 : Int)] (rels ys) (0 + (↑k : Int).toNat * 6) then bif decide ((0 : Int) ≤ (↑k : Int)) && decide ((↑k : Int) < (↑ys.length : Int)) then bif hasN (0 + (↑k : Int).toNat * 6 + 6) (rels xs) && isLikeL [Value.int IntKind.u32 (0 : Int), Value.bool false, Value.int IntKind.u32 (0 : Int), Value.int IntKind.u32 (0 : Int), Value.int IntKind.u16 (0 : Int), Value.int IntKind.u16 (0 : Int)] (rels xs) (0 + (↑k : Int).toNat * 6) then bif decide ((0 : Int) ≤ (↑k : Int)) && decide ((↑k : Int) < (↑xs.length : Int)) then True ∧ decide ((↑k : Int) < (↑xs.length : Int)) = true else False else False else False else False) ∧ (!(intOf' (getD' undef (rels xs) (0 + (↑k : Int).toNat * 6)) == intOf' (getD' undef (rels ys) (0 + (↑k : Int).toNat * 6)) && (boolOf' (getD' undef (rels xs) (0 + (↑k : Int).toNat * 6 + 1)) == boolOf' (getD' undef (rels ys) (0 + (↑k : Int).toNat * 6 + 1)) && (intOf' (getD' undef (rels xs) (0 + (↑k : Int).toNat * 6 + 1 + 1)) == intOf' (getD' undef (rels ys) (0 + (↑k : Int).toNat * 6 + 1 + 1)) && (intOf' (getD' undef (rels xs) (0 + (↑k : Int).toNat * 6 + 1 + 1 + 1)) == intOf' (getD' undef (rels ys) (0 + (↑k : Int).toNat * 6 + 1 + 1 + 1)) && (intOf' (getD' undef (rels xs) (0 + (↑k : Int).toNat * 6 + 1 + 1 + 1 + 1)) == intOf' (getD' undef (rels ys) (0 + (↑k : Int).toNat * 6 + 1 + 1 + 1 + 1)) && (intOf' (getD' undef (rels xs) (0 + (↑k : Int).toNat * 6 + 1 + 1 + 1 + 1 + 1)) == intOf' (getD' undef (rels ys) (0 + (↑k : Int).toNat * 6 + 1 + 1 + 1 + 1 + 1)) && true))))))) = false : St } : Fr }) := by kernel_rfl
theorem es_bad (xs : List Rl) (ys : List Rl) (k : Nat) : evC Try.prog (evF Try.prog noBase noLoop 100 3) (noLoop 33) 26 100 (loopOf Try.prog 33 0) (Sf.frT 26 (esI xs ys k) [(0, true), (1, true)]) = some (Exit.ret, { e := [[Value.slice (some { block := 64, off := 0 }) xs.length 9223372036854775872, Value.slice (some { block := 65, off := 0 }) ys.length 9223372036854775873, unk, unk, Value.bool false, Value.int IntKind.i64 (↑k : Int), unk, unk, unk, unk, unk, unk, Value.int IntKind.i64 (↑xs.length : Int), Value.int IntKind.i64 (↑k : Int), Value.bool (decide ((↑k : Int) < (↑xs.length : Int))), Value.int IntKind.i64 (↑k : Int)], [Value.slice (some { block := 64, off := 0 }) xs.length 9223372036854775872, Value.int IntKind.i64 (↑k : Int), Value.pointer (some { block := 64, off := 0 + (↑k : Int).toNat * 6 }), Value.agg { toList := [Value.int IntKind.u32 (intOf' (getD' undef (rels xs) (0 + (↑k : Int).toNat * 6))), Value.bool (boolOf' (getD' undef (rels xs) (0 + (↑k : Int).toNat * 6 + 1))), Value.int IntKind.u32 (intOf' (getD' undef (rels xs) (0 + (↑k : Int).toNat * 6 + 1 + 1))), Value.int IntKind.u32 (intOf' (getD' undef (rels xs) (0 + (↑k : Int).toNat * 6 + 1 + 1 + 1))), Value.int IntKind.u16 (intOf' (getD' undef (rels xs) (0 + (↑k : Int).toNat * 6 + 1 + 1 + 1 + 1))), Value.int IntKind.u16 (intOf' (getD' undef (rels xs) (0 + (↑k : Int).toNat * 6 + 1 + 1 + 1 + 1 + 1)))] }, Value.slice (some { block := 65, off := 0 }) ys.length 9223372036854775873, Value.int IntKind.i64 (↑k : Int), Value.pointer (some { block := 65, off := 0 + (↑k : Int).toNat * 6 }), Value.agg { toList := [Value.int IntKind.u32 (intOf' (getD' undef (rels ys) (0 + (↑k : Int).toNat * 6))), Value.bool (boolOf' (getD' undef (rels ys) (0 + (↑k : Int).toNat * 6 + 1))), Value.int IntKind.u32 (intOf' (getD' undef (rels ys) (0 + (↑k : Int).toNat * 6 + 1 + 1))), Value.int IntKind.u32 (intOf' (getD' undef (rels ys) (0 + (↑k : Int).toNat * 6 + 1 + 1 + 1))), Value.int IntKind.u16 (intOf' (getD' undef (rels ys) (0 + (↑k : Int).toNat * 6 + 1 + 1 + 1 + 1))), Value.int IntKind.u16 (intOf' (getD' undef (rels ys) (0 + (↑k : Int).toNat * 6 + 1 + 1 + 1 + 1 + 1)))] }, Value.bool !(intOf' (getD' undef (rels xs) (0 + (↑k : Int).toNat * 6)) == intOf' (getD' undef (rels ys) (0 + (↑k : Int).toNat * 6)) && (boolOf' (getD' undef (rels xs) (0 + (↑k : Int).toNat * 6 + 1)) == boolOf' (getD' undef (rels ys) (0 + (↑k : Int).toNat * 6 + 1)) && (intOf' (getD' undef (rels xs) (0 + (↑k : Int).toNat * 6 + 1 + 1)) == intOf' (getD' undef (rels ys) (0 + (↑k : Int).toNat * 6 + 1 + 1)) && (intOf' (getD' undef (rels xs) (0 + (↑k : Int).toNat * 6 + 1 + 1 + 1)) == intOf' (getD' undef (rels ys) (0 + (↑k : Int).toNat * 6 + 1 + 1 + 1)) && (intOf' (getD' undef (rels xs) (0 + (↑k : Int).toNat * 6 + 1 + 1 + 1 + 1)) == intOf' (getD' undef (rels ys) (0 + (↑k : Int).toNat * 6 + 1 + 1 + 1 + 1)) && (intOf' (getD' undef (rels xs) (0 + (↑k : Int).toNat * 6 + 1 + 1 + 1 + 1 + 1)) == intOf' (getD' undef (rels ys) (0 + (↑k : Int).toNat * 6 + 1 + 1 + 1 + 1 + 1)) && true)))))), unk, unk, unk, unk, unk, unk, unk]], s := { n := 66, h := [(64, { rw := false, op := some (0, 0), cells := rels xs, it := none : Sy.Blk }), (65, { rw := false, op := some (0, 0), cells := rels ys, it := none : Sy.Blk })], lo := [], esc := 0, T := [], k := 2, O := (bif hasN (0 + (↑k : Int).toNat * 6 + 6) (rels ys) && isLikeL [Value.int IntKind.u32 (0 : Int), Value.bool false, Value.int IntKind.u32 (0 : Int), Value.int IntKind.u32 (0 : Int), Value.int IntKind.u16 (0 : Int), Value.int IntKind.u16 (0 : Int)] (rels ys) (0 + (↑k : Int).toNat * 6) then bif decide ((0 : Int) ≤ (↑k : Int)) && decide ((↑k : Int) < (↑ys.length : Int)) then bif hasN (0 + (↑k : Int).toNat * 6 + 6) (rels xs) && isLikeL [Value.int IntKind.u32 (0 : Int), Value.bool false, Value.int IntKind.u32 (0 : Int), Value.int IntKind.u32 (0 : Int), Value.int IntKind.u16 (0 : Int), Value.int IntKind.u16 (0 : Int)] (rels xs) (0 + (↑k : Int).toNat * 6) then bif decide ((0 : Int) ≤ (↑k : Int)) && decide ((↑k : Int) < (↑xs.length : Int)) then True ∧ decide ((↑k : Int) < (↑xs.length : Int)) = true else False else False else False else False) ∧ (!(intOf' (getD' undef (rels xs) (0 + (↑k : Int).toNat * 6)) == intOf' (getD' undef (rels ys) (0 + (↑k : Int).toNat * 6)) && (boolOf' (getD' undef (rels xs) (0 + (↑k : Int).toNat * 6 + 1)) == boolOf' (getD' undef (rels ys) (0 + (↑k : Int).toNat * 6 + 1)) && (intOf' (getD' undef (rels xs) (0 + (↑k : Int).toNat * 6 + 1 + 1)) == intOf' (getD' undef (rels ys) (0 + (↑k : Int).toNat * 6 + 1 + 1)) && (intOf' (getD' undef (rels xs) (0 + (↑k : Int).toNat * 6 + 1 + 1 + 1)) == intOf' (getD' undef (rels ys) (0 + (↑k : Int).toNat * 6 + 1 + 1 + 1)) && (intOf' (getD' undef (rels xs) (0 + (↑k : Int).toNat * 6 + 1 + 1 + 1 + 1)) == intOf' (getD' undef (rels ys) (0 + (↑k : Int).toNat * 6 + 1 + 1 + 1 + 1)) && (intOf' (getD' undef (rels xs) (0 + (↑k : Int).toNat * 6 + 1 + 1 + 1 + 1 + 1)) == intOf' (getD' undef (rels ys) (0 + (↑k : Int).toNat * 6 + 1 + 1 + 1 + 1 + 1)) && true))))))) = true : St } : Fr }) := by kernel_rfl
theorem es_end (xs : List Rl) (ys : List Rl) (k : Nat) : evC Try.prog (evF Try.prog noBase noLoop 100 3) (noLoop 33) 26 100 (loopOf Try.prog 33 0) (Sf.frT 26 (esI xs ys k) [(0, false)]) = some (Exit.exit 0, { e := [[Value.slice (some { block := 64, off := 0 }) xs.length 9223372036854775872, Value.slice (some { block := 65, off := 0 }) ys.length 9223372036854775873, unk, unk, unk, unk, unk, unk, unk, unk, unk, unk, Value.int IntKind.i64 (↑xs.length : Int), Value.int IntKind.i64 (↑k : Int), Value.bool (decide ((↑k : Int) < (↑xs.length : Int))), unk], [unk, unk, unk, unk, unk, unk, unk, unk, unk, unk, unk, unk, unk, unk, unk, unk]], s := { n := 66, h := [(64, { rw := false, op := some (0, 0), cells := rels xs, it := none : Sy.Blk }), (65, { rw := false, op := some (0, 0), cells := rels ys, it := none : Sy.Blk })], lo := [], esc := 0, T := [], k := 1, O := True ∧ decide ((↑k : Int) < (↑xs.length : Int)) = false : St } : Fr }) := by kernel_rfl
theorem es_wf (xs ys : List Rl) (k : Nat) : (esI xs ys k).Wf :=
  ⟨by show NG ≤ 66; decide, Sf.Ok.mk' 3 ⟨⟨rfl, rfl, flat_bnd (rels_flat xs)⟩, ⟨rfl, rfl, flat_bnd (rels_flat ys)⟩, trivial⟩ rfl (fun x hx => by
    have : (esI xs ys k).e.all (fun x => okV (fun l => Nat.blt l 66) 3 x.2) = true := by kernel_rfl
    exact List.all_eq_true.1 this x hx)⟩
theorem esF_ok : esF.Ok (keeps 66 66 id (fun l => Nat.blt l 66)) := Sf.Ok.mk' 3 trivial rfl (fun x hx => by
    have : esF.e.all (fun x => okV (keeps 66 66 id (fun l => Nat.blt l 66)) 3 x.2) = true := by kernel_rfl
    exact List.all_eq_true.1 this x hx)
theorem esN_ok : esN.Ok (keeps 66 66 id (fun l => Nat.blt l 66)) := Sf.Ok.mk' 3 trivial rfl (fun x hx => by cases hx)
theorem es_step_next (xs ys : List Rl) (k : Nat) (e : Sf) (hm : xs.length < 9000000000000000000) (hk : k < xs.length) (hl : ys.length = xs.length) (hv : rlB (rl0 xs k) (rl0 ys k) = true) (hn : e.n = 66) (he : e.Ok (keeps 66 66 id (fun l => Nat.blt l 66))) :
    ∃ g, evC Try.prog (evF Try.prog noBase noLoop 100 3) (noLoop 33) 26 100 (loopOf Try.prog 33 0) ((esI xs ys k).frT 26 [(0, true), (1, false)]) = some (.normal, g) ∧ g.s.O ∧ Sf.Leads 3 (fun l => Nat.blt l 66) id (esI xs ys k) g (esI xs ys (k + 1)) e := by
  have a0 : intOf' (getD' undef (rels xs) (0 + k * 6)) = ((rl0 xs k).at_ : Int) := by rw [Nat.zero_add]; exact rels_0 (by omega)
  have a1 : boolOf' (getD' undef (rels xs) (0 + k * 6 + 1)) = (rl0 xs k).code := by rw [Nat.zero_add]; exact rels_1 (by omega)
  have a2 : intOf' (getD' undef (rels xs) (0 + k * 6 + 1 + 1)) = ((rl0 xs k).off : Int) := by rw [Nat.zero_add]; exact rels_2 (by omega)
  have a3 : intOf' (getD' undef (rels xs) (0 + k * 6 + 1 + 1 + 1)) = ((rl0 xs k).size : Int) := by rw [Nat.zero_add]; exact rels_3 (by omega)
  have a4 : intOf' (getD' undef (rels xs) (0 + k * 6 + 1 + 1 + 1 + 1)) = ((rl0 xs k).perms : Int) := by rw [Nat.zero_add]; exact rels_4 (by omega)
  have a5 : intOf' (getD' undef (rels xs) (0 + k * 6 + 1 + 1 + 1 + 1 + 1)) = ((rl0 xs k).typ : Int) := by rw [Nat.zero_add]; exact rels_5 (by omega)
  have b0 : intOf' (getD' undef (rels ys) (0 + k * 6)) = ((rl0 ys k).at_ : Int) := by rw [Nat.zero_add]; exact rels_0 (by omega)
  have b1 : boolOf' (getD' undef (rels ys) (0 + k * 6 + 1)) = (rl0 ys k).code := by rw [Nat.zero_add]; exact rels_1 (by omega)
  have b2 : intOf' (getD' undef (rels ys) (0 + k * 6 + 1 + 1)) = ((rl0 ys k).off : Int) := by rw [Nat.zero_add]; exact rels_2 (by omega)
  have b3 : intOf' (getD' undef (rels ys) (0 + k * 6 + 1 + 1 + 1)) = ((rl0 ys k).size : Int) := by rw [Nat.zero_add]; exact rels_3 (by omega)
  have b4 : intOf' (getD' undef (rels ys) (0 + k * 6 + 1 + 1 + 1 + 1)) = ((rl0 ys k).perms : Int) := by rw [Nat.zero_add]; exact rels_4 (by omega)
  have b5 : intOf' (getD' undef (rels ys) (0 + k * 6 + 1 + 1 + 1 + 1 + 1)) = ((rl0 ys k).typ : Int) := by rw [Nat.zero_add]; exact rels_5 (by omega)
  have g1 : hasN (0 + k * 6 + 6) (rels xs) = true := by rw [rels_has]; simp; omega
  have g2 : isLikeL [Value.int IntKind.u32 (0 : Int), Value.bool false, Value.int IntKind.u32 (0 : Int), Value.int IntKind.u32 (0 : Int), Value.int IntKind.u16 (0 : Int), Value.int IntKind.u16 (0 : Int)] (rels xs) (0 + k * 6) = true := by rw [Nat.zero_add]; exact rels_like (by omega) _ _ _ _ _ _
  have g3 : decide ((k : Int) < (xs.length : Int)) = true := by simp; omega
  have h1 : hasN (0 + k * 6 + 6) (rels ys) = true := by rw [rels_has]; simp; omega
  have h2 : isLikeL [Value.int IntKind.u32 (0 : Int), Value.bool false, Value.int IntKind.u32 (0 : Int), Value.int IntKind.u32 (0 : Int), Value.int IntKind.u16 (0 : Int), Value.int IntKind.u16 (0 : Int)] (rels ys) (0 + k * 6) = true := by rw [Nat.zero_add]; exact rels_like (by omega) _ _ _ _ _ _
  have h3 : decide ((k : Int) < (ys.length : Int)) = true := by simp; omega
  have z3 : decide ((0 : Int) ≤ (k : Int)) = true := by simp
  unfold rlB at hv
  refine ⟨_, es_next xs ys k, ?_, ?_⟩
  · simp only [Int.toNat_natCast, a0, a1, a2, a3, a4, a5, b0, b1, b2, b3, b4, b5, g1, g2, g3, h1, h2, h3, z3, hv, Bool.and_self, cond_true, Bool.not_true, and_self]
  · refine ⟨fun _ _ => rfl, ⟨⟨rfl, flat_all (rels_flat xs), rfl, rfl, rfl, trivial, (flat_map (rels_flat xs)).symm⟩, ⟨rfl, flat_all (rels_flat ys), rfl, rfl, rfl, trivial, (flat_map (rels_flat ys)).symm⟩, trivial⟩, rfl, trivial, ⟨⟨by kernel_rfl, by kernel_rfl⟩, ⟨by kernel_rfl, by kernel_rfl⟩, ⟨rfl, by kernel_rfl⟩, ⟨rfl, ?_⟩, trivial⟩, Nat.le_refl _, fun l hl => blt_no hl, ?_, ?_⟩
    · refine Eq.trans (b := Value.int .i64 (IntKind.i64.wrap ((k : Int) + 1))) (by kernel_rfl) ?_
      rw [cast_succ_i64 k (by omega)]; rfl
    · rw [hn]; exact he
    · intro x _ _; exact .inl rfl
theorem es_step_bad (xs ys : List Rl) (k : Nat) (hk : k < xs.length) (hl : ys.length = xs.length) (hv : rlB (rl0 xs k) (rl0 ys k) = false) :
    ∃ g, evC Try.prog (evF Try.prog noBase noLoop 100 3) (noLoop 33) 26 100 (loopOf Try.prog 33 0) ((esI xs ys k).frT 26 [(0, true), (1, true)]) = some (.ret, g) ∧ g.s.O ∧ Sf.Leads 3 (fun l => Nat.blt l 66) id (esI xs ys k) g esF esF := by
  have a0 : intOf' (getD' undef (rels xs) (0 + k * 6)) = ((rl0 xs k).at_ : Int) := by rw [Nat.zero_add]; exact rels_0 (by omega)
  have a1 : boolOf' (getD' undef (rels xs) (0 + k * 6 + 1)) = (rl0 xs k).code := by rw [Nat.zero_add]; exact rels_1 (by omega)
  have a2 : intOf' (getD' undef (rels xs) (0 + k * 6 + 1 + 1)) = ((rl0 xs k).off : Int) := by rw [Nat.zero_add]; exact rels_2 (by omega)
  have a3 : intOf' (getD' undef (rels xs) (0 + k * 6 + 1 + 1 + 1)) = ((rl0 xs k).size : Int) := by rw [Nat.zero_add]; exact rels_3 (by omega)
  have a4 : intOf' (getD' undef (rels xs) (0 + k * 6 + 1 + 1 + 1 + 1)) = ((rl0 xs k).perms : Int) := by rw [Nat.zero_add]; exact rels_4 (by omega)
  have a5 : intOf' (getD' undef (rels xs) (0 + k * 6 + 1 + 1 + 1 + 1 + 1)) = ((rl0 xs k).typ : Int) := by rw [Nat.zero_add]; exact rels_5 (by omega)
  have b0 : intOf' (getD' undef (rels ys) (0 + k * 6)) = ((rl0 ys k).at_ : Int) := by rw [Nat.zero_add]; exact rels_0 (by omega)
  have b1 : boolOf' (getD' undef (rels ys) (0 + k * 6 + 1)) = (rl0 ys k).code := by rw [Nat.zero_add]; exact rels_1 (by omega)
  have b2 : intOf' (getD' undef (rels ys) (0 + k * 6 + 1 + 1)) = ((rl0 ys k).off : Int) := by rw [Nat.zero_add]; exact rels_2 (by omega)
  have b3 : intOf' (getD' undef (rels ys) (0 + k * 6 + 1 + 1 + 1)) = ((rl0 ys k).size : Int) := by rw [Nat.zero_add]; exact rels_3 (by omega)
  have b4 : intOf' (getD' undef (rels ys) (0 + k * 6 + 1 + 1 + 1 + 1)) = ((rl0 ys k).perms : Int) := by rw [Nat.zero_add]; exact rels_4 (by omega)
  have b5 : intOf' (getD' undef (rels ys) (0 + k * 6 + 1 + 1 + 1 + 1 + 1)) = ((rl0 ys k).typ : Int) := by rw [Nat.zero_add]; exact rels_5 (by omega)
  have g1 : hasN (0 + k * 6 + 6) (rels xs) = true := by rw [rels_has]; simp; omega
  have g2 : isLikeL [Value.int IntKind.u32 (0 : Int), Value.bool false, Value.int IntKind.u32 (0 : Int), Value.int IntKind.u32 (0 : Int), Value.int IntKind.u16 (0 : Int), Value.int IntKind.u16 (0 : Int)] (rels xs) (0 + k * 6) = true := by rw [Nat.zero_add]; exact rels_like (by omega) _ _ _ _ _ _
  have g3 : decide ((k : Int) < (xs.length : Int)) = true := by simp; omega
  have h1 : hasN (0 + k * 6 + 6) (rels ys) = true := by rw [rels_has]; simp; omega
  have h2 : isLikeL [Value.int IntKind.u32 (0 : Int), Value.bool false, Value.int IntKind.u32 (0 : Int), Value.int IntKind.u32 (0 : Int), Value.int IntKind.u16 (0 : Int), Value.int IntKind.u16 (0 : Int)] (rels ys) (0 + k * 6) = true := by rw [Nat.zero_add]; exact rels_like (by omega) _ _ _ _ _ _
  have h3 : decide ((k : Int) < (ys.length : Int)) = true := by simp; omega
  have z3 : decide ((0 : Int) ≤ (k : Int)) = true := by simp
  unfold rlB at hv
  refine ⟨_, es_bad xs ys k, ?_, ?_⟩
  · simp only [Int.toNat_natCast, a0, a1, a2, a3, a4, a5, b0, b1, b2, b3, b4, b5, g1, g2, g3, h1, h2, h3, z3, hv, Bool.and_self, cond_true, Bool.not_false, and_self]
  · exact ⟨fun _ _ => rfl, trivial, rfl, trivial, ⟨⟨by kernel_rfl, by kernel_rfl⟩, trivial⟩, Nat.le_refl _, fun l hl => blt_no hl, esF_ok, fun x hx => by cases hx⟩
theorem es_step_end (xs ys : List Rl) (k : Nat) (hk : k = xs.length) :
    ∃ g, evC Try.prog (evF Try.prog noBase noLoop 100 3) (noLoop 33) 26 100 (loopOf Try.prog 33 0) ((esI xs ys k).frT 26 [(0, false)]) = some (.exit 0, g) ∧ g.s.O ∧ Sf.Leads 3 (fun l => Nat.blt l 66) id (esI xs ys k) g esN esN := by
  refine ⟨_, es_end xs ys k, ?_, ?_⟩
  · subst hk; simp
  · exact ⟨fun _ _ => rfl, trivial, rfl, trivial, trivial, Nat.le_refl _, fun l hl => blt_no hl, esN_ok, fun x hx => by cases hx⟩
theorem es_found (xs ys : List Rl) (j : Nat) (hm : xs.length < 9000000000000000000) (hl : ys.length = xs.length) (hj : j < xs.length) (hv : rlB (rl0 xs j) (rl0 ys j) = false) (hn : ∀ i, i < j → rlB (rl0 xs i) (rl0 ys i) = true) :
    ∀ x : { k : Nat // k ≤ j }, LoopOk Try.prog 26 (loopOf Try.prog 33 0) ((esI xs ys x.1).fr 26) .ret (esF.fr 26) := by
  refine loop_ok (L := 100) (run_ok (L := 100) i_names (noBase_ok _) (noLoop_ok _) 3) (noLoop_any _ _ 33) (fun _ h => h) (X := { k : Nat // k ≤ j }) (fun x => esI xs ys x.1) (fun _ => esF) (fun _ => .ret) (fun x => j - x.1) (fun x => es_wf xs ys x.1) ?_
  rintro ⟨k, hk⟩
  by_cases h : k = j
  · subst h
    obtain ⟨g, h1, h2, h3⟩ := es_step_bad xs ys k hj hl hv
    exact ⟨_, .ret, g, 3, _, _, h1, h2, .inr ⟨by simp, rfl, h3⟩⟩
  · obtain ⟨g, h1, h2, h3⟩ := es_step_next xs ys k esF hm (by omega) hl (hn k (by omega)) rfl esF_ok
    exact ⟨_, .normal, g, 3, _, _, h1, h2, .inl ⟨rfl, ⟨k + 1, by omega⟩, by show j - (k + 1) < j - k; omega, rfl, rfl, h3⟩⟩
theorem es_none (xs ys : List Rl) (hm : xs.length < 9000000000000000000) (hl : ys.length = xs.length) (hn : ∀ i, i < xs.length → rlB (rl0 xs i) (rl0 ys i) = true) :
    ∀ x : { k : Nat // k ≤ xs.length }, LoopOk Try.prog 26 (loopOf Try.prog 33 0) ((esI xs ys x.1).fr 26) (.exit 0) (esN.fr 26) := by
  refine loop_ok (L := 100) (run_ok (L := 100) i_names (noBase_ok _) (noLoop_ok _) 3) (noLoop_any _ _ 33) (fun _ h => h) (X := { k : Nat // k ≤ xs.length }) (fun x => esI xs ys x.1) (fun _ => esN) (fun _ => .exit 0) (fun x => xs.length - x.1) (fun x => es_wf xs ys x.1) ?_
  rintro ⟨k, hk⟩
  by_cases h : k < xs.length
  · obtain ⟨g, h1, h2, h3⟩ := es_step_next xs ys k esN hm h hl (hn k h) rfl esN_ok
    exact ⟨_, .normal, g, 3, _, _, h1, h2, .inl ⟨rfl, ⟨k + 1, by omega⟩, by show xs.length - (k + 1) < xs.length - k; omega, rfl, rfl, h3⟩⟩
  · obtain ⟨g, h1, h2, h3⟩ := es_step_end xs ys k (by omega)
    exact ⟨_, .exit 0, g, 3, _, _, h1, h2, .inr ⟨by simp, rfl, h3⟩⟩
def esEntF (xs ys : List Rl) (j : Nat) (hm : xs.length < 9000000000000000000) (hl : ys.length = xs.length) (hj : j < xs.length) (hv : rlB (rl0 xs j) (rl0 ys j) = false) (hn : ∀ i, i < j → rlB (rl0 xs i) (rl0 ys i) = true) : Ent Try.prog :=
  entC Try.prog 33 0 26 (esI xs ys 0) .ret esF (by kernel_rfl) (by kernel_rfl) (es_found xs ys j hm hl hj hv hn ⟨0, Nat.zero_le _⟩)
def esEntN (xs ys : List Rl) (hm : xs.length < 9000000000000000000) (hl : ys.length = xs.length) (hn : ∀ i, i < xs.length → rlB (rl0 xs i) (rl0 ys i) = true) : Ent Try.prog :=
  entC Try.prog 33 0 26 (esI xs ys 0) (.exit 0) esN (by kernel_rfl) (by kernel_rfl) (es_none xs ys hm hl hn ⟨0, Nat.zero_le _⟩)
end Go.Proofs.Ytdljpnebpoaeiaa
namespace Go.Proofs.Ytdljpnebpoaeiaa
set_option linter.unusedVariables false
set_option linter.unusedSimpArgs false
open Go.RowKit
open Sy
theorem esf_len (xs : List Rl) (ys : List Rl) : evF Try.prog noBase noLoop 100 10 33 [Value.slice (some { block := 64, off := 0 }) xs.length (big + 64), Value.slice (some { block := 65, off := 0 }) ys.length (big + 65)] { n := 66, h := esH xs ys, lo := [], esc := 0, T := [(0, true)], k := 0, O := True : St } = some (Value.bool false, { n := 66, h := [(64, { rw := false, op := some (0, 0), cells := rels xs, it := none : Sy.Blk }), (65, { rw := false, op := some (0, 0), cells := rels ys, it := none : Sy.Blk })], lo := [], esc := 0, T := [], k := 1, O := True ∧ ((↑xs.length : Int) != (↑ys.length : Int)) = true : St }) := by kernel_rfl
theorem esf_bad (xs : List Rl) (ys : List Rl) (j : Nat) (hm : xs.length < 9000000000000000000) (hl : ys.length = xs.length) (hj : j < xs.length) (hv : rlB (rl0 xs j) (rl0 ys j) = false) (hn : ∀ (i : Nat), i < j → rlB (rl0 xs i) (rl0 ys i) = true) : evF Try.prog noBase (lpOf [esEntF xs ys j hm hl hj hv hn]) 100 10 33 [Value.slice (some { block := 64, off := 0 }) xs.length (big + 64), Value.slice (some { block := 65, off := 0 }) ys.length (big + 65)] { n := 66, h := esH xs ys, lo := [], esc := 0, T := [(0, false)], k := 0, O := True : St } = some (Value.bool false, { n := 66, h := [(64, { rw := false, op := some (0, 0), cells := rels xs, it := none : Sy.Blk }), (65, { rw := false, op := some (0, 0), cells := rels ys, it := none : Sy.Blk })], lo := [], esc := 0, T := [], k := 1, O := (True ∧ ((↑xs.length : Int) != (↑ys.length : Int)) = false) ∧ (Value.slice (some { block := 64, off := 0 }) xs.length 9223372036854775872 = Value.slice (some { block := 64, off := 0 }) xs.length 9223372036854775872 ∧ Value.slice (some { block := 65, off := 0 }) ys.length 9223372036854775873 = Value.slice (some { block := 65, off := 0 }) ys.length 9223372036854775873 ∧ Value.int IntKind.i64 (↑xs.length : Int) = Value.int IntKind.i64 (↑xs.length : Int) ∧ Value.int IntKind.i64 (0 : Int) = Value.int IntKind.i64 (0 : Int) ∧ True) ∧ ((true = true ∧ true = true ∧ True ∧ rels xs = rels xs) ∧ (true = true ∧ true = true ∧ True ∧ rels ys = rels ys) ∧ True) ∧ True ∧ True : St }) := by kernel_rfl
theorem esf_ok (xs : List Rl) (ys : List Rl) (hm : xs.length < 9000000000000000000) (hl : ys.length = xs.length) (hn : ∀ (i : Nat), i < xs.length → rlB (rl0 xs i) (rl0 ys i) = true) : evF Try.prog noBase (lpOf [esEntN xs ys hm hl hn]) 100 10 33 [Value.slice (some { block := 64, off := 0 }) xs.length (big + 64), Value.slice (some { block := 65, off := 0 }) ys.length (big + 65)] { n := 66, h := esH xs ys, lo := [], esc := 0, T := [(0, false)], k := 0, O := True : St } = some (Value.bool true, { n := 66, h := [(64, { rw := false, op := some (0, 0), cells := rels xs, it := none : Sy.Blk }), (65, { rw := false, op := some (0, 0), cells := rels ys, it := none : Sy.Blk })], lo := [], esc := 0, T := [], k := 1, O := (True ∧ ((↑xs.length : Int) != (↑ys.length : Int)) = false) ∧ (Value.slice (some { block := 64, off := 0 }) xs.length 9223372036854775872 = Value.slice (some { block := 64, off := 0 }) xs.length 9223372036854775872 ∧ Value.slice (some { block := 65, off := 0 }) ys.length 9223372036854775873 = Value.slice (some { block := 65, off := 0 }) ys.length 9223372036854775873 ∧ Value.int IntKind.i64 (↑xs.length : Int) = Value.int IntKind.i64 (↑xs.length : Int) ∧ Value.int IntKind.i64 (0 : Int) = Value.int IntKind.i64 (0 : Int) ∧ True) ∧ ((true = true ∧ true = true ∧ True ∧ rels xs = rels xs) ∧ (true = true ∧ true = true ∧ True ∧ rels ys = rels ys) ∧ True) ∧ True ∧ True : St }) := by kernel_rfl
def esC (xs ys : List Rl) : Con := ⟨[.slice (some ⟨64, 0, none⟩) xs.length (big + 64), .slice (some ⟨65, 0, none⟩) ys.length (big + 65)], 66, esH xs ys, [], .bool (relsB xs ys), 66, [], []⟩
theorem relsB_true (xs ys : List Rl) (hl : ys.length = xs.length) (h : ∀ i, i < xs.length → rlB (rl0 xs i) (rl0 ys i) = true) : relsB xs ys = true := by
  unfold relsB
  rw [Bool.and_eq_true, decide_eq_true_eq, List.all_eq_true]
  exact ⟨hl.symm, fun i hi => h i (List.mem_range.1 hi)⟩
theorem relsB_false (xs ys : List Rl) (h : ¬ ∀ i, i < xs.length → rlB (rl0 xs i) (rl0 ys i) = true) : relsB xs ys = false := by
  cases hb : relsB xs ys
  · rfl
  · unfold relsB at hb
    rw [Bool.and_eq_true, List.all_eq_true] at hb
    exact absurd (fun i hi => hb.2 i (List.mem_range.2 hi)) h
theorem relsB_len (xs ys : List Rl) (h : xs.length ≠ ys.length) : relsB xs ys = false := by
  unfold relsB
  rw [show decide (xs.length = ys.length) = false from decide_eq_false h, Bool.false_and]
theorem es_wfC (xs ys : List Rl) (v : Bool) : (⟨[.slice (some ⟨64, 0, none⟩) xs.length (big + 64), .slice (some ⟨65, 0, none⟩) ys.length (big + 65)], 66, esH xs ys, [], .bool v, 66, [], []⟩ : Con).Wf 3 :=
  ⟨by show NG ≤ 66; decide, Nat.le_refl _, ⟨⟨rfl, rfl, flat_bnd (rels_flat xs)⟩, ⟨rfl, rfl, flat_bnd (rels_flat ys)⟩, trivial⟩, rfl, rfl, rfl, by kernel_rfl, rfl, fun x hx => by cases hx⟩
theorem es_any {lp : FuncId → LoopK} (hlp : SoundCall Try.prog (evF Try.prog noBase lp 100 10)) {xs ys : List Rl} {T : List (Nat × Bool)} {v v' : Bool} {s' : St}
    (h : evF Try.prog noBase lp 100 10 33 [.slice (some ⟨64, 0, none⟩) xs.length (big + 64), .slice (some ⟨65, 0, none⟩) ys.length (big + 65)] ⟨66, esH xs ys, [], 0, T, 0, True⟩ = some (.bool v, s')) (hv : v = v') (hO : s'.O) :
    ConOk Try.prog 33 3 ⟨[.slice (some ⟨64, 0, none⟩) xs.length (big + 64), .slice (some ⟨65, 0, none⟩) ys.length (big + 65)], 66, esH xs ys, [], .bool v', 66, [], []⟩ := by
  subst hv
  refine conOk_run (T := T) hlp (es_wfC xs ys v) h hO (p := fun l => Nat.blt l 66) (σ := id) ?_
  exact ⟨fun _ _ => rfl, trivial, rfl, trivial, ⟨rfl, rfl⟩, rfl, trivial, rfl, bnd_flat0 _ rfl, fun x hx => by cases hx⟩
theorem es_con (xs ys : List Rl) (hm : xs.length < 9000000000000000000) : ConOk Try.prog 33 3 (esC xs ys) := by
  by_cases hl : ys.length = xs.length
  · have hl' : (((xs.length : Nat) : Int) != ((ys.length : Nat) : Int)) = false := by rw [hl]; simp
    by_cases hn : ∀ i, i < xs.length → rlB (rl0 xs i) (rl0 ys i) = true
    · have hh := esf_ok xs ys hm hl hn
      refine es_any (run_ok i_names (noBase_ok _) (lpOf_ok _) 10) hh (relsB_true xs ys hl hn).symm ?_
      simp only [hl']
      repeat' (with_reducible apply And.intro)
      all_goals first | with_reducible trivial | with_reducible rfl
    · have hf : ((List.range xs.length).any fun i => !rlB (rl0 xs i) (rl0 ys i)) = true := by
        rw [List.any_eq_true]
        obtain ⟨i, hi⟩ := Classical.not_forall.1 hn
        obtain ⟨h1, h2⟩ := Classical.not_imp.1 hi
        exact ⟨i, List.mem_range.2 h1, by simpa using h2⟩
      obtain ⟨j, hj, hv, hb⟩ := first_of _ _ hf
      have hh := esf_bad xs ys j hm hl hj (by simpa using hv) (fun i hij => by have := hb i hij; simpa using this)
      refine es_any (run_ok i_names (noBase_ok _) (lpOf_ok _) 10) hh (relsB_false xs ys hn).symm ?_
      simp only [hl']
      repeat' (with_reducible apply And.intro)
      all_goals first | with_reducible trivial | with_reducible rfl
  · have hh := esf_len xs ys
    have hl' : (((xs.length : Nat) : Int) != ((ys.length : Nat) : Int)) = true := by rw [bne_iff_ne]; omega
    refine es_any (run_ok i_names (noBase_ok _) (noLoop_ok _) 10) hh (relsB_len xs ys (by omega)).symm ?_
    simp only [hl']
    repeat' (with_reducible apply And.intro)
    all_goals first | with_reducible trivial | with_reducible rfl
end Go.Proofs.Ytdljpnebpoaeiaa
