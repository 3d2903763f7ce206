/-
  CoreMovesCard: part 3 of the proof.
-/
import Derived.Below
import Derived.Calls
import Derived.ChangeOld
import Derived.Deep.AppendLies
import Derived.Deep.CutRange
import Derived.Deep.DeepCutAuto
import Derived.Deep.Draws
import Derived.Deep.Fields
import Derived.Deep.LoopGhost
import Derived.Deep.QuietTactic
import Derived.Deep.Slices
import Derived.Handed
import Derived.LaidHandle
import Derived.LaidMore
import Derived.Laws.BytesArg
import Derived.Laws.Concat
import Derived.Laws.EntriesVeiled
import Derived.Laws.IdiomStrings
import Derived.Laws.OwnMore
import Derived.Laws.Pointers
import Derived.Laws.Rows
import Derived.Laws.Strings
import Derived.Laws.Strings2
import Derived.Lib.Hide
import Derived.Lib.SmallJoins
import Derived.MakeChecks
import Derived.OpenShut
import Derived.ProofKit
import Derived.Recover
import Derived.ShutString
import Derived.Stop.Joined
import Derived.Test.YtagacmljbgkmoaaGreatDoorQCoreMovesCardB
import Derived.Test.YtagacmljbgkmoaaGreatDoorRows
import Derived.WalkKit
namespace Go.Proofs.YtagacmljbgkmoaaGreatDoor
set_option linter.unusedVariables false
set_option linter.unusedSimpArgs false
set_option linter.unusedSectionVars false
open Go.RowKit
structure Box (p : Prop) : Prop where
  out : p
theorem hide {p : Prop} (h : p) : Hid p := h
theorem block_of_add (a : Addr) (n : Nat) : (a.add n).block = a.block := by unfold Addr.add; split <;> rfl
theorem add_of_add (a : Addr) (i j : Nat) : (a.add i).add j = a.add (i + j) := by
  unfold Addr.add
  by_cases hi : i = 0 <;> by_cases hj : j = 0 <;> simp [hi, hj, Nat.add_assoc]
def Reads (w : World) (B size : Nat) (A : Option Addr) (n : Nat) (xs : List Value) : Prop :=
  xs.length = n * size ∧ (0 < n → ∃ ad, A = some ad ∧ ad.block < B ∧ ∀ j u, xs[j]? = some u → w.cell? (ad.add j) = some u)
section
variable {w w' : World} {B B' size n : Nat} {A : Option Addr} {xs : List Value}
theorem Reads.keep (h : Reads w B size A n xs) (hk : ∀ p : Addr, p.block < B → w'.cell? p = w.cell? p) : Reads w' B size A n xs :=
  ⟨h.1, fun hn => by
    obtain ⟨ad, e, hb, hc⟩ := h.2 hn
    exact ⟨ad, e, hb, fun j u hu => (hk _ (by rw [block_of_add]; exact hb)).trans (hc j u hu)⟩⟩
theorem Reads.below (h : Reads w B size A n xs) (hb : Below B w w') : Reads w' B size A n xs := h.keep fun _ hp => hb.cell hp
theorem Reads.drew (h : Reads w B size A n xs) : Reads w.drew B size A n xs := h
theorem Reads.drewN (h : Reads w B size A n xs) (k : Nat) : Reads (w.drewN k) B size A n xs := h
theorem Reads.alloc (h : Reads w B size A n xs) (hB : B ≤ w.heap.size) (o : Obj) : Reads (w.alloc o) B size A n xs := h.keep fun p hp => World.cell?_alloc_lt w o p (by omega)
theorem Reads.setCell (h : Reads w B size A n xs) {p : Addr} (hB : B ≤ p.block) (u : Value) : Reads (w.setCell p u) B size A n xs :=
  h.keep fun q hq => World.cell?_setCell_other w p q u (fun e => by subst e; omega)
theorem Reads.cut (h : Reads w B size A n xs) {k cap : Nat} (hk : k ≤ n) (hc : n ≤ cap) :
    Reads w B size (if cap = k then A else A.map (·.add (k * size))) (n - k) (xs.drop (k * size)) := by
  refine ⟨by rw [List.length_drop, h.1, Nat.sub_mul], fun hn => ?_⟩
  obtain ⟨ad, rfl, hb, hcell⟩ := h.2 (by omega)
  rw [if_neg (by omega)]
  refine ⟨ad.add (k * size), rfl, by rw [block_of_add]; exact hb, fun j u hu => ?_⟩
  rw [add_of_add]
  exact hcell _ u (by rw [← hu, List.getElem?_drop])
end
def Blk (w : World) (g : Nat) (t : TypeId) (cs : Array Value) : Prop := w.heap[g]? = some (.cells cs t (0, 0))
section
variable {w w' : World} {g : Nat} {t : TypeId} {cs : Array Value}
theorem Blk.lt (h : Blk w g t cs) : g < w.heap.size := by
  rcases Nat.lt_or_ge g w.heap.size with hlt | hge
  · exact hlt
  · unfold Blk at h; rw [Array.getElem?_eq_none hge] at h; cases h
theorem Blk.cell (h : Blk w g t cs) (i : Nat) : w.cell? ⟨g, i, none⟩ = cs[i]? := cell_of_row w g i cs t (0, 0) h
theorem Blk.frozen (h : Blk w g t cs) (i : Nat) : w.frozen? ⟨g, i, none⟩ = false := by
  unfold Blk at h
  simp [World.frozen?, h]
theorem Blk.new (w : World) (t : TypeId) (cs : Array Value) : Blk (w.alloc (.cells cs t)) w.heap.size t cs := heap_alloc_new w _
theorem Blk.drew (h : Blk w g t cs) : Blk w.drew g t cs := h
theorem Blk.drewN (h : Blk w g t cs) (n : Nat) : Blk (w.drewN n) g t cs := h
theorem Blk.alloc (h : Blk w g t cs) (o : Obj) : Blk (w.alloc o) g t cs := (Below.heap_alloc w o g h.lt).trans h
theorem Blk.set_ (h : Blk w g t cs) (i : Nat) (u : Value) : Blk (w.setCell ⟨g, i, none⟩ u) g t (cs.setIfInBounds i u) := by
  unfold Blk at h ⊢
  simp [World.setCell, Array.getElem?_modify, h]
theorem Blk.far (h : Blk w g t cs) {p : Addr} (hp : g ≠ p.block) (u : Value) : Blk (w.setCell p u) g t cs := (Below.heap_setCell w p u g hp).trans h
theorem Blk.below {B : Nat} (h : Blk w g t cs) (hb : Below B w w') (hg : g < B) : Blk w' g t cs := (hb.block g hg).trans h
end
def Row (w : World) (B : Nat) (A : Option Addr) (xs : List Value) : Prop :=
  xs = [] ∨ ∃ g off, A = some ⟨g, off, none⟩ ∧ g < B ∧ ∀ j u, xs[j]? = some u → w.cell? ⟨g, off + j, none⟩ = some u
section
variable {w w' : World} {B B' : Nat} {A : Option Addr} {xs : List Value}
theorem Row.keep (h : Row w B A xs) (hk : ∀ p : Addr, p.block < B → w'.cell? p = w.cell? p) : Row w' B A xs := by
  rcases h with h | ⟨g, off, e, hb, hc⟩
  · exact .inl h
  · exact .inr ⟨g, off, e, hb, fun j u hu => (hk _ hb).trans (hc j u hu)⟩
theorem Row.below (h : Row w B A xs) (hb : Below B w w') : Row w' B A xs := h.keep fun _ hp => hb.cell hp
theorem Row.drew (h : Row w B A xs) : Row w.drew B A xs := h
theorem Row.drewN (h : Row w B A xs) (k : Nat) : Row (w.drewN k) B A xs := h
theorem Row.alloc (h : Row w B A xs) (hB : B ≤ w.heap.size) (o : Obj) : Row (w.alloc o) B A xs := h.keep fun p hp => World.cell?_alloc_lt w o p (by omega)
theorem Row.setCell (h : Row w B A xs) {p : Addr} (hB : B ≤ p.block) (u : Value) : Row (w.setCell p u) B A xs :=
  h.keep fun q hq => World.cell?_setCell_other w p q u (fun e => by subst e; omega)
theorem Row.cut (h : Row w B A xs) {k cap : Nat} (hk : k ≤ xs.length) (hc : xs.length ≤ cap) :
    Row w B (if cap = k then A else A.map (·.add (k * 1))) (xs.drop k) := by
  rcases Nat.lt_or_ge k xs.length with hlt | hge
  · rcases h with h | ⟨g, off, rfl, hb, hcell⟩
    · subst h; simp at hlt
    · rw [if_neg (by omega)]
      refine .inr ⟨g, off + k, ?_, hb, fun j u hu => ?_⟩
      · simp only [Option.map_some, Nat.mul_one, Addr.add]; split
        · rename_i h0; subst h0; rfl
        · rfl
      · rw [List.getElem?_drop] at hu
        rw [Nat.add_assoc]; exact hcell _ u hu
  · left; exact List.drop_eq_nil_of_le hge
theorem Row.take (h : Row w B A xs) (k : Nat) : Row w B A (xs.take k) := by
  rcases h with h | ⟨g, off, e, hb, hc⟩
  · exact .inl (by simp [h])
  · exact .inr ⟨g, off, e, hb, fun j u hu => hc j u (by
      rw [List.getElem?_take] at hu; split at hu
      · exact hu
      · cases hu)⟩
theorem Row.place (h : Row w B A xs) (hx : 0 < xs.length) : ∃ g off, A = some ⟨g, off, none⟩ ∧ g < B ∧ ∀ j u, xs[j]? = some u → w.cell? ⟨g, off + j, none⟩ = some u := by
  rcases h with h | h
  · subst h; simp at hx
  · exact h
end
def bs (l : List UInt8) : ByteArray := ⟨l.toArray⟩
@[go_sem] theorem bs_size (l : List UInt8) : (bs l).size = l.length := by simp [bs, ByteArray.size]
@[go_sem] theorem bs_toList (l : List UInt8) : (bs l).toList = l := ByteArray.toList_mk l
@[go_sem] theorem bs_append (a b : List UInt8) : bs a ++ bs b = bs (a ++ b) := ByteArray.mk_append_mk a b
@[go_sem] theorem bs_extract (l : List UInt8) (a b : Nat) : (bs l).extract a b = bs ((l.drop a).take (b - a)) := ByteArray.extract_mk l a b
@[go_sem] theorem bs_get (l : List UInt8) (i : Nat) (h : i < (bs l).size) : (bs l)[i]'h = l[i]'(by simpa [bs_size] using h) := by
  simp [bs, ByteArray.getElem_eq_getElem_data]
theorem below_drewN {B : Nat} {a w : World} (h : Below B a w) (n : Nat) : Below B a (w.drewN n) := ⟨h.os, h.tape, h.output, h.size, h.block⟩
end Go.Proofs.YtagacmljbgkmoaaGreatDoor
namespace Go.Proofs.YtagacmljbgkmoaaGreatDoor
set_option linter.unusedVariables false
set_option linter.unusedSimpArgs false
set_option linter.unusedSectionVars false
open Go.RowKit
theorem alu_add (a b : Nat) (W : World) :
    Calls Tryz.prog 137 #[.int .u32 a, .int .u32 b] W fun e w' => e = .returned (.int .u32 (((a : Int) + b) % 4294967296)) ∧ w' = W := by
  go_enter Tryz.func137, Tryz.ntmps137
  go_wp2
  go_ret
  exact ⟨rfl, rfl⟩
theorem alu_div0 (a : Nat) (W : World) :
    Calls Tryz.prog 140 #[.int .u32 a, .int .u32 0] W fun e w' => e = .panicked [{ v := .iface 10 (strVal "integer divide by zero"), recovered := false }] ∧ w' = W := by
  go_enter Tryz.func140, Tryz.ntmps140
  go_wp2
  simp [bodyPost]
theorem catch_panicking (p q s : Nat) (u : TypeId) (pv : Value) (older : List PanicEntry) (w : World) {x y z : Value} {tp tq ts : TypeId} (hp : Blk w p tp #[x]) (hq : Blk w q tq #[y]) (hs : Blk w s ts #[z]) (hpq : q ≠ p) (hqs : s ≠ q) (hps : s ≠ p) :
    CallsD Tryz.prog 75 #[.pointer (some ⟨p, 0, none⟩), .pointer (some ⟨q, 0, none⟩), .pointer (some ⟨s, 0, none⟩)] (.panicking ({ v := .iface u pv, recovered := false } :: older)) w fun e u' w' =>
      e = .returned (.tuple #[]) ∧ u' = .panicking ({ v := .iface u pv, recovered := true } :: older) ∧ w' = ((w.setCell ⟨p, 0, none⟩ (.int .u32 0)).setCell ⟨q, 0, none⟩ (.int .i64 7)).setCell ⟨s, 0, none⟩ (.bool true) := by
  have p1 := hp.cell 0
  have p2 := hp.frozen 0
  have q1 := (hq.far (p := ⟨p, 0, none⟩) hpq (.int .u32 0)).cell 0
  have q2 := (hq.far (p := ⟨p, 0, none⟩) hpq (.int .u32 0)).frozen 0
  have s1 := ((hs.far (p := ⟨p, 0, none⟩) hps (.int .u32 0)).far (p := ⟨q, 0, none⟩) hqs (.int .i64 7)).cell 0
  have s2 := ((hs.far (p := ⟨p, 0, none⟩) hps (.int .u32 0)).far (p := ⟨q, 0, none⟩) hqs (.int .i64 7)).frozen 0
  simp at p1 q1 s1
  refine callsD_of_wpS Tryz.func75 rfl fun c₀ cs hu => ?_
  apply wpS_seq
  apply wpS_region
  simp [wpOpsS, go_sem, recoverD, hu, Tryz.ntmps75, Exit.thenS]
  refine wpS_cond (t := true) (by simp [Act.eval, Array.replicate]) ?_
  simp only [if_true]
  refine wpS_of_wp ?_
  clear hp hq hs hpq hqs hps
  go_wp2
  simp [bodyPostS, results, Tryz.results75]
theorem catch_idle (p q s : Value) (w : World) :
    CallsD Tryz.prog 75 #[p, q, s] .returning w fun e u' w' => e = .returned (.tuple #[]) ∧ u' = .returning ∧ w' = w := by
  refine callsD_of_wpS Tryz.func75 rfl fun c₀ cs hu => ?_
  apply wpS_seq
  apply wpS_region
  simp [wpOpsS, go_sem, recoverD, hu, Tryz.ntmps75, Exit.thenS]
  refine wpS_cond (t := false) (by simp [Act.eval, Array.replicate]) ?_
  simp only [Bool.false_eq_true, if_false]
  refine wpS_of_wp (wp_skip ?_)
  cases c₀
  simp_all [bodyPostS, results, Tryz.results75]
theorem Blk.newAt {W : World} {g : Nat} (h : W.heap.size = g) (t : TypeId) (cs : Array Value) : Blk (W.alloc (.cells cs t)) g t cs := by subst h; exact Blk.new W t cs
def opsRow : Array Value := #[.int .i64 3, .func (.func 137) #[] #[], .int .i64 4, .func (.func 138) #[] #[], .int .i64 5, .func (.func 139) #[] #[], .int .i64 6, .func (.func 140) #[] #[], .int .i64 7, .func (.func 141) #[] #[], .int .i64 8, .func (.func 142) #[] #[], .int .i64 9, .func (.func 143) #[] #[], .int .i64 10, .func (.func 144) #[] #[], .int .i64 11, .func (.func 145) #[] #[], .int .i64 12, .func (.func 146) #[] #[], .int .i64 13, .func (.func 147) #[] #[], .int .i64 14, .func (.func 149) #[] #[], .int .i64 15, .func (.func 151) #[] #[]]
theorem alu_ops (W : World) : Calls Tryz.prog 74 #[] W fun e w' => e = .returned (.slice (some ⟨W.heap.size, 0, none⟩) 13 13) ∧ w' = W.alloc (.cells opsRow 129) := by
  go_enter Tryz.func74, Tryz.ntmps74
  go_wp2
  go_ret
  exact ⟨rfl, rfl⟩
def fnAt : Nat → Nat
  | 0 => 137
  | 1 => 138
  | 2 => 139
  | 3 => 140
  | 4 => 141
  | 5 => 142
  | 6 => 143
  | 7 => 144
  | 8 => 145
  | 9 => 146
  | 10 => 147
  | 11 => 149
  | 12 => 151
  | _ => 0
theorem ops_fn : ∀ k : Nat, k < 13 → opsRow[k * 2 + 1]? = some (.func (.func (fnAt k)) #[] #[])
  | 0, _ => rfl
  | 1, _ => rfl
  | 2, _ => rfl
  | 3, _ => rfl
  | 4, _ => rfl
  | 5, _ => rfl
  | 6, _ => rfl
  | 7, _ => rfl
  | 8, _ => rfl
  | 9, _ => rfl
  | 10, _ => rfl
  | 11, _ => rfl
  | 12, _ => rfl
  | k + 13, h => absurd h (by omega)
theorem ops_code : ∀ k : Nat, k < 13 → opsRow[k * 2]? = some (.int .i64 ((k : Int) + 3))
  | 0, _ => rfl
  | 1, _ => rfl
  | 2, _ => rfl
  | 3, _ => rfl
  | 4, _ => rfl
  | 5, _ => rfl
  | 6, _ => rfl
  | 7, _ => rfl
  | 8, _ => rfl
  | 9, _ => rfl
  | 10, _ => rfl
  | 11, _ => rfl
  | 12, _ => rfl
  | k + 13, h => absurd h (by omega)
theorem ops_at (k : Nat) (h : k < 13) : opsRow[k * 2]? = some (.int .i64 ((k : Int) + 3)) ∧ opsRow[k * 2 + 1]? = some (.func (.func (fnAt k)) #[] #[]) := ⟨ops_code k h, ops_fn k h⟩
def AluR (w wr : World) (code : Int) (z : Nat) (i : Value) : Prop := ∃ k : Nat, k ≤ 13 ∧ z = 13 - k ∧ i = .int .i64 k ∧ Blk wr w.heap.size 22 #[.int .u32 0] ∧ Blk wr (w.heap.size + 1) 36 #[.int .i64 0] ∧ Blk wr (w.heap.size + 2) 4 #[.bool false] ∧
  Blk wr (w.heap.size + 3) 129 opsRow ∧ Below w.heap.size w wr ∧ ∀ j : Nat, j < k → code ≠ j + 3
set_option maxRecDepth 100000 in
theorem reckon_any (code : Int) (a b : Nat) (w : World) (hc : (code < 3 ∨ 15 < code) ∨ code = 3 ∨ (code = 6 ∧ b = 0)) :
    Calls Tryz.prog 39 #[.int .i64 code, .int .u32 a, .int .u32 b] w fun e w' =>
      e = .returned (.tuple (if code = 3 then #[.int .u32 (((a : Int) + b) % 4294967296), .int .i64 0, .bool true] else if code = 6 then #[.int .u32 0, .int .i64 7, .bool true] else #[.int .u32 0, .int .i64 0, .bool false])) ∧ Below w.heap.size w w' := by
  have hmf : ∀ (fn : Fn) (first cap : Array Value) (w : World), (Instr.makeFunc fn first cap).run Tryz.prog w = .ok (.func fn first cap) w := fun _ _ _ _ => rfl
  go_enter_defers Tryz.func39, Tryz.ntmps39
  go_wp2_with fail
  refine (alu_ops _).mono ?_
  rintro e w1 ⟨rfl, rfl⟩
  go_wp2
  go_loopg [13] 13 (fun z i wr => AluR w wr code z i)
  case atStart =>
    refine ⟨0, by omega, rfl, rfl, ?_, ?_, ?_, ?_, ?_, fun j hj => absurd hj (by omega)⟩
    · exact (((Blk.new w _ _).alloc _).alloc _).alloc _
    · exact ((Blk.newAt (by simp) _ _).alloc _).alloc _
    · exact (Blk.newAt (by simp) _ _).alloc _
    · exact Blk.newAt (by simp) _ _
    · (repeat (first | (with_reducible exact Below.refl _ _) | (with_reducible refine Below.drew ?_) | (with_reducible refine below_drewN ?_ _) | (with_reducible refine Below.alloc ?_ (by simp <;> omega) _) | (with_reducible refine Below.setCell ?_ (by simp <;> omega) _)))
  case round =>
    obtain ⟨k, hk, rfl, rfl, q0, q1, q2, q3, kb, hno⟩ := hrel
    by_cases h13 : k = 13
    · subst h13
      have hcn : ¬ code = 3 ∧ ¬ code = 6 := ⟨hno 0 (by omega), hno 3 (by omega)⟩
      have KB := hide kb
      clear q3 kb hno
      have e0 := q0.cell 0; have f0 := q0.frozen 0
      have e1 := q1.cell 0; have f1 := q1.frozen 0
      have e2 := q2.cell 0; have f2 := q2.frozen 0
      clear q0 q1 q2
      simp at e0 e1 e2
      go_wp2
      simp [bodyPostD, Leaves, settle, results, Tryz.results39, go_sem, e0, e1, e2]
      exact ((KB.out.setCell (Nat.le_refl _) _).setCell (Nat.le_succ _) _).setCell (by show w.heap.size ≤ w.heap.size + 1 + 1; omega) _
    have hk13 : (k : Int) < 13 := by omega
    obtain ⟨c1, c2⟩ := ops_at k (by omega)
    have e3 := (q3.cell (k * 2)).trans c1
    have e4 := (q3.cell (k * 2 + 1)).trans c2
    by_cases hit : ((k : Int) + 3) = code
    rotate_left
    · have KB := hide kb
      have Q0 := hide q0
      have Q1 := hide q1
      have Q2 := hide q2
      have Q3 := hide q3
      have HNO := hide hno
      clear q0 q1 q2 q3 kb hno c1 c2
      go_wp2
      go_roundg (12 - k)
      case measure => omega
      case rel =>
        have q3 := Q3.out
        refine ⟨k + 1, by omega, by omega, by simp, Q0.out.alloc _, Q1.out.alloc _, Q2.out.alloc _, q3.alloc _, Below.alloc KB.out KB.out.size _, fun j hj => ?_⟩
        rcases Nat.lt_or_ge j k with h | h
        · exact HNO.out j h
        · have : j = k := by omega
          subst this
          exact fun e => hit e.symm
    have KB := hide kb
    have Q3 := hide q3
    have Q0 := hide q0
    have Q1 := hide q1
    have Q2 := hide q2
    have l0 := q0.lt; have l1 := q1.lt; have l2 := q2.lt
    have e0 := q0.cell 0; have f0 := q0.frozen 0
    have e1 := q1.cell 0; have f1 := q1.frozen 0
    have e2 := q2.cell 0; have f2 := q2.frozen 0
    clear q0 q1 q2 q3 kb hno
    simp at e0 e1 e2
    have hk2 : k = 0 ∨ (k = 3 ∧ b = 0) := by omega
    rcases hk2 with rfl | ⟨rfl, rfl⟩
    · obtain rfl : code = 3 := by omega
      simp [fnAt] at e3 e4
      clear c1 c2 hit hc h13 hk13
      go_wp2_with fail
      refine (alu_add a b _).mono ?_
      rintro e w2 ⟨rfl, rfl⟩
      go_wp2
      refine leaves_cons (f := 75) (args := #[.pointer (some ⟨w.heap.size, 0, none⟩), .pointer (some ⟨w.heap.size + 1, 0, none⟩), .pointer (some ⟨w.heap.size + 1 + 1, 0, none⟩)]) (by simp) (by simp [go_sem]) ?_
      refine (catch_idle _ _ _ _).mono ?_
      rintro e u' w3 ⟨rfl, rfl, rfl⟩
      have Q2' : Blk wr (w.heap.size + 1 + 1) 4 #[.bool false] := Q2.out
      have z0 := ((((Q0.out.set_ 0 (.int .u32 (((a : Int) + b) % 4294967296))).far (p := ⟨w.heap.size + 1, 0, none⟩) (by simp) (.int .i64 0)).far (p := ⟨w.heap.size + 1 + 1, 0, none⟩) (by simp; omega) (.bool true)).alloc (.cells #[.int .i64 3, .func (.func 137) #[] #[]] 129)).cell 0
      have z1 := ((((Q1.out.far (p := ⟨w.heap.size, 0, none⟩) (by simp) (.int .u32 (((a : Int) + b) % 4294967296))).set_ 0 (.int .i64 0)).far (p := ⟨w.heap.size + 1 + 1, 0, none⟩) (by simp) (.bool true)).alloc (.cells #[.int .i64 3, .func (.func 137) #[] #[]] 129)).cell 0
      have z2 := ((((Q2'.far (p := ⟨w.heap.size, 0, none⟩) (by simp; omega) (.int .u32 (((a : Int) + b) % 4294967296))).far (p := ⟨w.heap.size + 1, 0, none⟩) (by simp) (.int .i64 0)).set_ 0 (.bool true)).alloc (.cells #[.int .i64 3, .func (.func 137) #[] #[]] 129)).cell 0
      simp only [List.setIfInBounds_toArray, List.set_cons_zero, List.getElem?_toArray, List.getElem?_cons_zero] at z0 z1 z2
      simp [Leaves, settle, results, Tryz.results39, go_sem, z0, z1, z2]
      exact (((KB.out.setCell (Nat.le_refl _) _).setCell (Nat.le_succ _) _).setCell (by show w.heap.size ≤ w.heap.size + 1 + 1; omega) _).alloc (by simp; omega) _
    · obtain rfl : code = 6 := by omega
      simp [fnAt] at e3 e4
      clear c1 c2 hit hc h13 hk13
      go_wp2_with fail
      refine (alu_div0 a _).mono ?_
      rintro e w2 ⟨rfl, rfl⟩
      go_wp2
      refine leaves_cons (f := 75) (args := #[.pointer (some ⟨w.heap.size, 0, none⟩), .pointer (some ⟨w.heap.size + 1, 0, none⟩), .pointer (some ⟨w.heap.size + 1 + 1, 0, none⟩)]) (by simp) (by simp [go_sem]) ?_
      refine (catch_panicking _ _ _ _ _ _ _ (Q0.out.alloc _) (Q1.out.alloc _) (Q2.out.alloc _) (by omega) (by omega) (by omega)).mono ?_
      rintro e u' w3 ⟨rfl, rfl, rfl⟩
      have Q2' : Blk wr (w.heap.size + 1 + 1) 4 #[.bool false] := Q2.out
      have z0 := ((((Q0.out.alloc (.cells #[.int .i64 6, .func (.func 140) #[] #[]] 129)).set_ 0 (.int .u32 0)).far (p := ⟨w.heap.size + 1, 0, none⟩) (by simp) (.int .i64 7)).far (p := ⟨w.heap.size + 1 + 1, 0, none⟩) (by simp; omega) (.bool true)).cell 0
      have z1 := ((((Q1.out.alloc (.cells #[.int .i64 6, .func (.func 140) #[] #[]] 129)).far (p := ⟨w.heap.size, 0, none⟩) (by simp) (.int .u32 0)).set_ 0 (.int .i64 7)).far (p := ⟨w.heap.size + 1 + 1, 0, none⟩) (by simp) (.bool true)).cell 0
      have z2 := ((((Q2'.alloc (.cells #[.int .i64 6, .func (.func 140) #[] #[]] 129)).far (p := ⟨w.heap.size, 0, none⟩) (by simp; omega) (.int .u32 0)).far (p := ⟨w.heap.size + 1, 0, none⟩) (by simp) (.int .i64 7)).set_ 0 (.bool true)).cell 0
      simp only [List.setIfInBounds_toArray, List.set_cons_zero, List.getElem?_toArray, List.getElem?_cons_zero] at z0 z1 z2
      simp [Leaves, settle, results, Tryz.results39, go_sem, z0, z1, z2]
      exact (((KB.out.alloc (by omega) _).setCell (Nat.le_refl _) _).setCell (Nat.le_succ _) _).setCell (by show w.heap.size ≤ w.heap.size + 1 + 1; omega) _
end Go.Proofs.YtagacmljbgkmoaaGreatDoor
namespace Go.Proofs.YtagacmljbgkmoaaGreatDoor
set_option linter.unusedVariables false
set_option linter.unusedSimpArgs false
set_option linter.unusedSectionVars false
open Go.ChangeShapes Go.WideShapes Go.ChangeAt Go.RowKit
open Go.ChangeMaps (open_string shut_string)
theorem own : ownKnob Tryz.prog.godebug = none := by kernel_rfl
theorem laidOut : laidOutB Tryz.prog = true := by kernel_rfl
section
variable {H : Type} {enc : TypeId × Value → H} {P : Program}
theorem post_of_below {f : Func} {s : ChangeSpec} {apart fresh handsOn again : Bool} {W W' : World} {args : Array Value} {v : Value} {ds gs : List (DataW H)} {before pa pv : List MemPlace}
    (hW : DataW.Whole enc P f.params.toList s.vars apart W args.toList ds gs before)
    (hres : ∀ (b : Nat) (sp : Nat → Bool) (hd : Bool), DataW.TrodAll enc P W' b sp hd f.resultTypes.toList (v.resultList f.resultTypes.size) (s.fn H (ds ++ gs)).results [])
    (hargs : ∀ sp : Nat → Bool, (∀ p ∈ before, sp p.block = true) → DataW.TrodAll enc P W' 0 sp true f.params.toList args.toList (s.fn H (ds ++ gs)).args pa)
    (hvars : ∀ sp : Nat → Bool, (∀ p ∈ before, sp p.block = true) → DataW.TrodVars enc P W' sp s.vars (s.fn H (ds ++ gs)).vars pv)
    (hps : before = pa ++ pv) (hb : Below W.heap.size W W')
    (hok : ∀ (j : Nat) (t : TypeId) (r : Value), f.resultTypes[j]? = some t → (v.resultList f.resultTypes.size)[j]? = some r → Value.okWide P W' .any 0 t r) :
    s.post enc P f apart fresh handsOn again W args v W' := by
  have hlt : ∀ p ∈ before, p.block < W.heap.size := fun p hp => hW.lt p hp
  have hold : ∀ p ∈ before, (fun b => decide (b < W.heap.size)) p.block = true := fun p hp => by simpa using hlt p hp
  refine ⟨ds, gs, before, [], pa, pv, hW, hres _ _ _, hargs _ hold, hvars _ hold, World.keptBut_mono (fun p hp => ⟨hp, ?_⟩) (hb.frame (· ∈ before)), fun _ => ?_⟩
  · rw [hps, List.mem_append] at hp
    exact Or.inr hp
  · obtain ⟨_, _, _, _, _, hz, hn⟩ := hW
    refine ⟨hok, _, _, ([] ++ pa) ++ pv, ⟨[] ++ pa, pv, trodAll_append (hargs _ (fun _ _ => rfl)) (hres _ _ _), hvars _ (fun _ _ => rfl), rfl, ?_, ?_⟩, ?_⟩
    · intro b off hp
      have hin : MemPlace.cell b off ∈ before := by rw [hps]; simpa using hp
      rw [hb.frozen (hlt _ hin)]
      exact hz b off hin
    · intro ha
      have := hn ha
      rw [hps] at this
      simpa using this
    · intro p hp _
      rw [hps]
      simpa using hp
theorem below_trodAll (hl : laidOutB P = true) {W W' : World} (hb : Below W.heap.size W W') {sp : Nat → Bool} : ∀ (ts : List TypeId) (vs : List Value) (ds : List (DataW H)) (ps : List MemPlace),
    (∀ t ∈ ts, P.readableRec t = true ∧ t < P.types.size) → DataW.TrodAll enc P W 0 (fun _ => true) true ts vs ds ps → (∀ x ∈ ps, x.block < W.heap.size) → (∀ x ∈ ps, sp x.block = true) →
    DataW.TrodAll enc P W' 0 sp true ts vs ds ps
  | [], [], [], _, _, h, _, _ => h
  | t :: ts, v :: vs, d :: ds, ps, ht, h, hlt, hs => by
    obtain ⟨p, q, h1, h2, rfl⟩ := h
    refine ⟨p, q, ?_, below_trodAll hl hb ts vs ds q (fun u hu => ht u (List.mem_cons_of_mem _ hu)) h2 (fun x hx => hlt x (List.mem_append_right _ hx)) (fun x hx => hs x (List.mem_append_right _ hx)), rfl⟩
    exact WideElems.Trod_stays hl (ht t (List.mem_cons_self ..)).1 (ht t (List.mem_cons_self ..)).2 h1 (fun x hx => hb.same (hlt x (List.mem_append_left _ hx))) (fun x hx => hs x (List.mem_append_left _ hx))
  | [], [], _ :: _, _, _, h, _, _ => h.elim
  | [], _ :: _, _, _, _, h, _, _ => h.elim
  | _ :: _, [], _, _, _, h, _, _ => h.elim
  | _ :: _, _ :: _, [], _, _, h, _, _ => h.elim
theorem trodAll_length {W : World} {base : Nat} {sp : Nat → Bool} {hd : Bool} : ∀ (ts : List TypeId) (vs : List Value) (ds : List (DataW H)) (ps : List MemPlace), DataW.TrodAll enc P W base sp hd ts vs ds ps → ds.length = ts.length
  | [], [], [], _, _ => rfl
  | _ :: ts, _ :: vs, _ :: ds, _, h => by
    obtain ⟨_, _, _, h2, _⟩ := h
    simp [trodAll_length ts vs ds _ h2]
  | [], [], _ :: _, _, h => h.elim
  | [], _ :: _, _, _, h => h.elim
  | _ :: _, [], _, _, h => h.elim
  | _ :: _, _ :: _, [], _, h => h.elim
end
theorem wf_u32 {n : Int} (h : (Lit.int .u32 n).wf = true) : 0 ≤ n ∧ n < 4294967296 := by
  have := bounds_u32 h; omega
theorem wf_u8 {n : Int} (h : (Lit.int .u8 n).wf = true) : 0 ≤ n ∧ n < 256 := by
  have := bounds_u8 h; omega
end Go.Proofs.YtagacmljbgkmoaaGreatDoor
namespace Go.Proofs.YtagacmljbgkmoaaGreatDoor
set_option linter.unusedVariables false
set_option linter.unusedSimpArgs false
set_option linter.unusedSectionVars false
open Go.ChangeShapes Go.WideShapes Go.ChangeAt Go.RowKit
abbrev laidL : List (String × DataW Unit) := [("fallow/isa.rows", Rows.laid_fallow_isa_rows)]
def LawWalkL (f : FuncId) (fn : Func) : Prop :=
  ∀ (H : Type) (enc : TypeId × Value → H) (W : World) (base : Nat) (args : Array Value) (ds : List (DataW H)) (p : List MemPlace), laidMetH Tryz.prog laidL W →
    (∀ (j : Nat) t v, fn.params[j]? = some t → args[j]? = some v → Value.okWide Tryz.prog W .any base t v) →
    DataW.TrodAll enc Tryz.prog W 0 (fun _ => true) true fn.params.toList args.toList ds p →
    Calls Tryz.prog f args W fun e W' => e = .returned (.bool true) ∧ Below W.heap.size W W'
set_option maxRecDepth 100000 in
theorem law_liftedL (f : FuncId) (fn : Func) (s : ChangeSpec) (conds : List PathCond) (hfn : Tryz.prog.funcs[f]? = some fn) (noInit : Tryz.prog.inits.idxOf? f = none)
    (hres : fn.resultTypes = #[4])
    (hvars : s.vars = []) (hspec : ∀ (H : Type) (ds : List (DataW H)), ds.length = fn.params.toList.length → (s.fn H (ds ++ [])).results = [.lit (.bool true)] ∧ (s.fn H (ds ++ [])).args = ds ∧ (s.fn H (ds ++ [])).vars = [])
    (hts : ∀ t ∈ fn.params.toList, Tryz.prog.readableRec t = true ∧ t < Tryz.prog.types.size)
    (walk : LawWalkL f fn) (os : Os) (started : os.Started) (H : Type) (enc : TypeId × Value → H)
    (witness : ∃ (w : World) (tape : Tape) (i : Input), w.os = os ∧ (w.forCall tape i).Shaped Tryz.checked.prog ∧ i.vars = [] ∧ Input.okWide Tryz.checked.prog (w.forCall tape i) .any w.heap.size f i ∧
      ((s.pre enc Tryz.checked.prog fn conds false (w.forCall tape i).memory i.args ∧ laidMetH Tryz.prog laidL (w.forCall tape i).memory) ∧ sizedMet enc Tryz.checked.prog fn (OpenSpec.ofChange s) false (w.forCall tape i).memory i.args) ∧
      ({} : Assume).holds Tryz.checked.prog (lone (Frame.enter Tryz.checked.prog f i.args .normal) [] (w.forCall tape i))) :
    ReturnsInHanded {} Tryz.checked os f .any (fun w args => (s.pre enc Tryz.prog fn conds false w args ∧ laidMetH Tryz.prog laidL w) ∧ sizedMet enc Tryz.prog fn (OpenSpec.ofChange s) false w args) (s.post enc Tryz.prog fn false true false false) := by
  refine returnsInHanded_of_change_and (C := Tryz.checked) (X := fun w _ => laidMetH Tryz.prog laidL w) (fun _ _ _ hh h => h.of_heap hh) own started noInit hfn witness ?_
  intro W base args ds gs before hval0 hW _ _ hL _
  have hW' := hW
  obtain ⟨p, q, hA, hV, rfl, _, _⟩ := hW
  rw [hvars] at hV
  obtain ⟨rfl, rfl⟩ := trodVars_none hV
  obtain ⟨e1, e2, e3⟩ := hspec H ds (trodAll_length _ _ _ _ hA)
  refine (walk H enc W base args ds p hL hval0 hA).mono fun e W' ⟨he, hg⟩ => ?_
  subst he
  refine ⟨_, rfl, post_of_below (pa := p) (pv := []) hW' (fun b sp hd => ?_) (fun sp hsp => ?_) (fun sp _ => ?_) rfl hg ?_⟩
  · rw [e1, hres]
    exact trodAll_mk1 (shut_bool Tryz.underlying4 _)
  · rw [e2]
    exact below_trodAll laidOut hg _ _ _ _ hts hA (fun x hx => hW'.lt x (List.mem_append_left _ hx)) (fun x hx => hsp x (List.mem_append_left _ hx))
  · rw [e3, hvars]; rfl
  · exact ok_one hres rfl (okWide_bool_mk Tryz.underlying4 _)
theorem door_met (os : Os) (args : Array Value) : laidMetH Tryz.prog laidL ((World.doorLaid Tryz.prog 400 os).forCall (fun _ _ => 0) ⟨#[], args, []⟩).memory :=
  laidMetH_of_parts3 (fuel := 8) (laidMet_of_run' 8 (by kernel_rfl) (by kernel_rfl)) (by kernel_rfl) (by kernel_rfl)
end Go.Proofs.YtagacmljbgkmoaaGreatDoor
namespace Go.Proofs.YtagacmljbgkmoaaGreatDoor
set_option linter.unusedVariables false
set_option linter.unusedSimpArgs false
set_option linter.unusedSectionVars false
open Go.ChangeShapes Go.WideShapes Go.ChangeAt Go.RowKit
def HasG (w : World) (g : Nat) (cs : List Value) : Prop := ∃ (arr : Array Value) (ty : TypeId), w.heap[g]? = some (.cells arr ty (0, 0)) ∧ arr.toList = cs
def rowsC : List Value := [.string ⟨⟨[]⟩⟩, .string ⟨⟨[]⟩⟩, .string ⟨⟨[108, 105]⟩⟩, .string ⟨⟨[97, 105]⟩⟩, .string ⟨⟨[108, 117, 105]⟩⟩, .string ⟨⟨[97, 106]⟩⟩, .string ⟨⟨[97, 100, 100]⟩⟩, .string ⟨⟨[97, 98, 99]⟩⟩, .string ⟨⟨[115, 117, 98]⟩⟩, .string ⟨⟨[97, 98, 99]⟩⟩, .string ⟨⟨[109, 117, 108]⟩⟩, .string ⟨⟨[97, 98, 99]⟩⟩, .string ⟨⟨[100, 105, 118]⟩⟩, .string ⟨⟨[97, 98, 99]⟩⟩, .string ⟨⟨[114, 101, 109]⟩⟩, .string ⟨⟨[97, 98, 99]⟩⟩, .string ⟨⟨[97, 110, 100]⟩⟩, .string ⟨⟨[97, 98, 99]⟩⟩, .string ⟨⟨[111, 114]⟩⟩, .string ⟨⟨[97, 98, 99]⟩⟩, .string ⟨⟨[120, 111, 114]⟩⟩, .string ⟨⟨[97, 98, 99]⟩⟩, .string ⟨⟨[115, 104, 108]⟩⟩, .string ⟨⟨[97, 98, 99]⟩⟩, .string ⟨⟨[115, 104, 114]⟩⟩, .string ⟨⟨[97, 98, 99]⟩⟩, .string ⟨⟨[108, 116]⟩⟩, .string ⟨⟨[97, 98, 99]⟩⟩, .string ⟨⟨[108, 116, 117]⟩⟩, .string ⟨⟨[97, 98, 99]⟩⟩, .string ⟨⟨[101, 113]⟩⟩, .string ⟨⟨[97, 98, 99]⟩⟩, .string ⟨⟨[97, 100, 100, 105]⟩⟩, .string ⟨⟨[97, 98, 105]⟩⟩, .string ⟨⟨[108, 98]⟩⟩, .string ⟨⟨[97, 98, 105]⟩⟩, .string ⟨⟨[108, 104]⟩⟩, .string ⟨⟨[97, 98, 105]⟩⟩, .string ⟨⟨[108, 119]⟩⟩, .string ⟨⟨[97, 98, 105]⟩⟩, .string ⟨⟨[115, 98]⟩⟩, .string ⟨⟨[97, 98, 105]⟩⟩, .string ⟨⟨[115, 104]⟩⟩, .string ⟨⟨[97, 98, 105]⟩⟩, .string ⟨⟨[115, 119]⟩⟩, .string ⟨⟨[97, 98, 105]⟩⟩, .string ⟨⟨[108, 99]⟩⟩, .string ⟨⟨[97, 98, 105]⟩⟩, .string ⟨⟨[115, 99]⟩⟩, .string ⟨⟨[97, 98, 105]⟩⟩, .string ⟨⟨[98, 101, 113]⟩⟩, .string ⟨⟨[97, 98, 105]⟩⟩, .string ⟨⟨[98, 110, 101]⟩⟩, .string ⟨⟨[97, 98, 105]⟩⟩, .string ⟨⟨[98, 108, 116]⟩⟩, .string ⟨⟨[97, 98, 105]⟩⟩, .string ⟨⟨[98, 103, 101]⟩⟩, .string ⟨⟨[97, 98, 105]⟩⟩, .string ⟨⟨[106, 97, 108]⟩⟩, .string ⟨⟨[97, 106]⟩⟩, .string ⟨⟨[106, 97, 108, 114]⟩⟩, .string ⟨⟨[97, 98]⟩⟩, .string ⟨⟨[109, 111, 118, 101]⟩⟩, .string ⟨⟨[97, 98]⟩⟩, .string ⟨⟨[105, 110, 99]⟩⟩, .string ⟨⟨[97, 98, 99]⟩⟩, .string ⟨⟨[105, 110, 99, 105]⟩⟩, .string ⟨⟨[97, 98, 105]⟩⟩, .string ⟨⟨[97, 100, 100, 114]⟩⟩, .string ⟨⟨[97, 98, 99]⟩⟩, .string ⟨⟨[115, 101, 116]⟩⟩, .string ⟨⟨[97, 98, 99]⟩⟩, .string ⟨⟨[101, 120, 97, 99, 116]⟩⟩, .string ⟨⟨[97, 98, 99]⟩⟩, .string ⟨⟨[97, 110, 100, 115]⟩⟩, .string ⟨⟨[97, 98, 99]⟩⟩, .string ⟨⟨[115, 101, 97, 108]⟩⟩, .string ⟨⟨[97, 98, 99]⟩⟩, .string ⟨⟨[111, 112, 101, 110]⟩⟩, .string ⟨⟨[97, 98, 99]⟩⟩, .string ⟨⟨[98, 117, 105, 108, 100]⟩⟩, .string ⟨⟨[97, 98, 99]⟩⟩, .string ⟨⟨[99, 108, 101, 97, 114]⟩⟩, .string ⟨⟨[97, 98]⟩⟩, .string ⟨⟨[103, 97, 100, 100, 114]⟩⟩, .string ⟨⟨[97, 98]⟩⟩, .string ⟨⟨[103, 98, 97, 115, 101]⟩⟩, .string ⟨⟨[97, 98]⟩⟩, .string ⟨⟨[103, 108, 101, 110]⟩⟩, .string ⟨⟨[97, 98]⟩⟩, .string ⟨⟨[103, 112, 101, 114, 109]⟩⟩, .string ⟨⟨[97, 98]⟩⟩, .string ⟨⟨[103, 116, 121, 112, 101]⟩⟩, .string ⟨⟨[97, 98]⟩⟩, .string ⟨⟨[103, 116, 97, 103]⟩⟩, .string ⟨⟨[97, 98]⟩⟩, .string ⟨⟨[105, 115, 105, 110, 116]⟩⟩, .string ⟨⟨[97, 98]⟩⟩, .string ⟨⟨[112, 99]⟩⟩, .string ⟨⟨[97, 106]⟩⟩, .string ⟨⟨[99, 97, 108, 108]⟩⟩, .string ⟨⟨[97, 98]⟩⟩, .string ⟨⟨[114, 101, 116]⟩⟩, .string ⟨⟨[]⟩⟩, .string ⟨⟨[101, 99, 97, 108, 108]⟩⟩, .string ⟨⟨[105]⟩⟩, .string ⟨⟨[116, 114, 97, 112]⟩⟩, .string ⟨⟨[]⟩⟩]
def strOf {H : Type} : DataW H → Value
  | .lit (.string b) => .string ⟨⟨b⟩⟩
  | _ => undef
def pairOf {H : Type} : DataW H → List Value
  | .agg [a, b] => [strOf a, strOf b]
  | _ => []
def partsOf {H : Type} : DataW H → List (DataW H)
  | .agg l => l
  | _ => []
theorem rowsC_eq : (partsOf (Rows.laid_fallow_isa_rows (H := Unit))).flatMap pairOf = rowsC := by kernel_rfl
theorem gRows : Tryz.prog.globalNamed "fallow/isa.rows" = some 0 := by kernel_rfl
theorem tRows : (Tryz.prog.globals[0]?).map (·.type) = some 204 := by kernel_rfl
theorem chunks : ∀ (L : List (List Value)) (cs : List Value), cs.length = L.length * 2 → (∀ i, i < L.length → (cs.drop (i * 2)).take 2 = L.getD i []) → cs = L.flatten
  | [], cs, h, _ => by simpa using h
  | x :: L, cs, h, hi => by
    have h0 := hi 0 (by simp)
    simp at h0
    rw [List.flatten_cons, ← h0]
    have := chunks L (cs.drop 2) (by simp at h ⊢; omega) (fun i hl => by
      have := hi (i + 1) (by simpa using hl)
      rw [List.drop_drop]
      simp only [List.getD_cons_succ] at this
      rw [← this]
      congr 2; omega)
    rw [← this]
    exact (List.take_append_drop 2 cs).symm
set_option maxRecDepth 100000 in
theorem rows_held {W : World} (h : laidMetH Tryz.prog laidL W) : HasG W 0 rowsC := by
  rw [MakeChecks.laidMetH_plain _ _ _ (by kernel_rfl)] at h
  obtain ⟨ps, ⟨g0, t0, cs0, f0, p0, q0, hg0, ht0, hv0, hd0, _, hps⟩, _, hall⟩ := h
  obtain rfl := Option.some.inj (gRows.symm.trans hg0)
  obtain rfl := Option.some.inj (tRows.symm.trans ht0)
  obtain ⟨xs, m, rfl, hx, hlen, hxl, hg⟩ := DataW.trod_array Tryz.underlying204 hd0
  have hL : partsOf (Rows.laid_fallow_isa_rows (H := Unit)) = xs.map (·.1) := by
    have := congrArg Prod.fst hx
    simp only at this
    rw [this]; rfl
  have hC : Tryz.prog.cellsOf 186 = 2 := by kernel_rfl
  have hsz : cs0.toList.length = 108 := hlen.trans (by kernel_rfl)
  have each : ∀ i, i < 54 → (cs0.toList.drop (i * 2)).take 2 = ((xs.map (·.1)).map pairOf).getD i [] := by
    intro i hi
    have h1 := hg i hi
    rw [hC, List.getElem?_eq_getElem (by omega)] at h1
    obtain ⟨ys, n, _, hy, hcl, hyl, hf⟩ := DataW.trod_struct Tryz.underlying186 h1
    have hcl : ((cs0.toList.drop (i * 2)).take 2).length = 2 := hcl.trans hC
    have f0 := hf 0 _ rfl
    have f1 := hf 1 _ rfl
    match hc : (cs0.toList.drop (i * 2)).take 2, hcl with
    | [a, b], _ =>
      rw [hc] at f0 f1
      match ys, hyl with
      | [y0, y1], _ =>
        obtain ⟨s0, e0, d0, _⟩ := DataW.trod_string (x := y0) Tryz.underlying9 f0
        obtain ⟨s1, e1, d1, _⟩ := DataW.trod_string (x := y1) Tryz.underlying9 f1
        have hS : Tryz.prog.cellsOf 9 = 1 := by kernel_rfl
        replace e0 : List.take (Tryz.prog.cellsOf 9) [a, b] = [.string s0] := e0
        replace e1 : List.take (Tryz.prog.cellsOf 9) [b] = [.string s1] := e1
        rw [hS] at e0 e1
        have e0 : a = .string s0 := by simpa using e0
        have e1 : b = .string s1 := by simpa using e1
        subst e0 e1 d0 d1
        have hx1 : (xs[i]'(by omega)).1 = .agg [.lit (.string s0.data.toList), .lit (.string s1.data.toList)] := congrArg Prod.fst hy
        rw [List.getD_eq_getElem?_getD, List.getElem?_map, List.getElem?_map, List.getElem?_eq_getElem (by omega)]
        simp only [Option.map_some, Option.getD_some, hx1]
        rfl
  have hcs : cs0.toList = rowsC := by
    rw [← rowsC_eq, hL, List.flatMap_def]
    exact chunks _ _ (by simp [hsz, hxl]) fun i hi => each i (by simpa [hxl] using hi)
  have h0 : MemPlace.cell 0 0 ∈ ps := by
    rw [hps]
    refine List.mem_append_left _ (List.mem_append_left _ ?_)
    have : cs0.size = 108 := by simpa using hsz
    rw [this]
    simp [MemPlace.row, List.range_succ]
  obtain ⟨c, ty, hb⟩ := (hall 0 0 h0).1
  refine ⟨c, ty, hb, ?_⟩
  unfold World.var? at hv0
  rw [hg0] at hv0
  simp only [Option.bind_some] at hv0
  rw [hb] at hv0
  cases hv0
  exact hcs
end Go.Proofs.YtagacmljbgkmoaaGreatDoor
namespace Go.Proofs.YtagacmljbgkmoaaGreatDoor
set_option linter.unusedVariables false
set_option linter.unusedSimpArgs false
set_option linter.unusedSectionVars false
open Go.RowKit
open Sy
theorem c_names : namesOk Tryz.prog = true := by kernel_rfl
def aluV (code a b : Int) : Value := .tuple (if code = 3 then #[.int .u32 ((a + b) % 4294967296), .int .i64 0, .bool true] else if code = 6 then #[.int .u32 0, .int .i64 7, .bool true] else #[.int .u32 0, .int .i64 0, .bool false])
def aluB (code a b : Int) : Bool := ((decide (code < 3) || decide (15 < code)) || decide (code = 3) || (decide (code = 6) && decide (b = 0))) && decide (0 ≤ a) && decide (0 ≤ b)
def selAlu : SelC := fun f args _ => bif Nat.beq f 39 then
  match args with
  | [.int .i64 code, .int .u32 a, .int .u32 b] => some (Con.pure [.int .i64 code, .int .u32 a, .int .u32 b] (aluV code a b), [], aluB code a b = true)
  | _ => none
  else none
theorem selAlu_ok : SelOk Tryz.prog 3 selAlu := by
  intro f args s c ρ q h hq
  unfold selAlu at h
  obtain ⟨h2, h3⟩ := bif_some h
  clear h
  have h2 := Nat.eq_of_beq_eq_true h2
  subst h2
  split at h3
  · rename_i code a b
    cases h3
    unfold aluB at hq
    simp only [Bool.and_eq_true, Bool.or_eq_true, decide_eq_true_eq] at hq
    obtain ⟨⟨hx, ha⟩, hb⟩ := hq
    obtain ⟨x, rfl⟩ := Int.eq_ofNat_of_zero_le ha
    obtain ⟨y, rfl⟩ := Int.eq_ofNat_of_zero_le hb
    refine conOk_pure (d := 1) (enters_b c_names (by kernel_rfl)) (fun u hu => ?_) ?_ fun w => ?_
    · simp only [List.mem_cons, List.not_mem_nil, or_false] at hu
      rcases hu with rfl | rfl | rfl <;> rfl
    · unfold aluV
      split
      · rfl
      · split <;> rfl
    · exact reckon_any code x y w (by rcases hx with (hx | hx) | ⟨h1, h2⟩
                                      · exact .inl hx
                                      · exact .inr (.inl hx)
                                      · exact .inr (.inr ⟨h1, by omega⟩))
  · cases h3
def z256 : List Value := [.int .u64 0, .int .u64 0, .int .u64 0, .int .u64 0]
def arH (zs : List UInt8) (a b c d : Nat) : Sy.Heap := [(d, ⟨true, none, [.pointer (some ⟨c, 0, none⟩), .slice (some ⟨a, 0, none⟩) 4096 (big + a)], none⟩), (c, ⟨true, none, [.int .i64 256, .slice (some ⟨b, 0, none⟩) 4 (big + b)], none⟩), (b, ⟨true, some (b, 1), z256, none⟩), (a, ⟨true, some (a, 1), u8s zs, none⟩)]
def anewC (zs : List UInt8) : Con := ⟨[.int .i64 16], 64, [], [], .tuple ⟨[.pointer (some ⟨67, 0, none⟩), .int .i64 0]⟩, 68, arH zs 64 65 66 67, [(65, 4), (64, 4096)]⟩
theorem anew_run : evF Tryz.prog noBase noLoop 100 10 9 [.int .i64 16] (stT []) = some (.tuple ⟨[.pointer (some ⟨67, 0, none⟩), .int .i64 0]⟩, ⟨68, arH (List.replicate 4096 0) 64 65 66 67, [(65, 4), (64, 4096)], 0, [], 0, True⟩) := by kernel_rfl
theorem u8s_flat (xs : List UInt8) : ∀ v ∈ u8s xs, flat0 v = true := fun v hv => by
  obtain ⟨b, _, rfl⟩ := List.mem_map.1 hv; rfl
theorem z_flat : ∀ v ∈ z256, flat0 v = true := fun v hv => List.all_eq_true.1 (show z256.all flat0 = true from rfl) v hv
theorem anew_con (zs : List UInt8) (hz : zs = List.replicate 4096 0) : ConOk Tryz.prog 9 3 (anewC zs) ∧ InId 3 (anewC zs) := by
  have hr := anew_run
  rw [← hz] at hr
  refine ⟨?_, ⟨fun x hx => (by cases hx), fun x hx hne => ?_⟩⟩
  · refine conOk_run (T := []) (run_ok (L := 100) c_names (noBase_ok _) (noLoop_ok _) 10) ?_ hr trivial (p := fun l => Nat.blt l 68) (σ := id) ?_
    · exact ⟨Nat.le_refl _, by show 64 ≤ 68; omega, trivial, rfl, rfl, rfl, rfl, rfl, fun x hx v hv => by
        simp only [anewC, arH, List.mem_cons, List.not_mem_nil, or_false] at hx
        rcases hx with rfl | rfl | rfl | rfl
        · exact List.all_eq_true.1 (show ([.pointer (some ⟨66, 0, none⟩), .slice (some ⟨64, 0, none⟩) 4096 (big + 64)] : List Value).all (okV (fun l => Nat.blt l 68) 3) = true from by kernel_rfl) v hv
        · exact List.all_eq_true.1 (show ([.int .i64 256, .slice (some ⟨65, 0, none⟩) 4 (big + 65)] : List Value).all (okV (fun l => Nat.blt l 68) 3) = true from by kernel_rfl) v hv
        · exact okV_flat0 (z_flat v hv) 3
        · exact okV_flat0 (u8s_flat zs v hv) 3⟩
    · refine ⟨fun _ _ => rfl, ⟨⟨rfl, by kernel_rfl, rfl, rfl, rfl, trivial, by kernel_rfl⟩, ⟨rfl, by kernel_rfl, rfl, rfl, rfl, trivial, by kernel_rfl⟩, ⟨rfl, by kernel_rfl, rfl, rfl, rfl, trivial, by kernel_rfl⟩, ⟨rfl, flat_all (u8s_flat zs), rfl, rfl, rfl, trivial, (flat_map (u8s_flat zs)).symm⟩, trivial⟩, rfl, ?_, ⟨by kernel_rfl, by kernel_rfl⟩, rfl, ⟨⟨rfl, rfl, ?_⟩, ⟨rfl, rfl, ?_⟩, ⟨rfl, rfl, flat_bnd z_flat⟩, ⟨rfl, rfl, flat_bnd (u8s_flat zs)⟩, trivial⟩, rfl, okV_bnd 3 _ (show okV (keeps 64 68 id (fun l => Nat.blt l 68)) 3 (.tuple ⟨[.pointer (some ⟨67, 0, none⟩), .int .i64 0]⟩) = true from by kernel_rfl), fun x _ _ => .inl rfl⟩
      · exact ⟨⟨rfl, Nat.le_refl _⟩, ⟨rfl, Nat.le_refl _⟩, trivial⟩
      · exact fun v hv => okV_bnd 3 v (List.all_eq_true.1 (show ([.pointer (some ⟨66, 0, none⟩), .slice (some ⟨64, 0, none⟩) 4096 (big + 64)] : List Value).all (okV (keeps 64 68 id (fun l => Nat.blt l 68)) 3) = true from by kernel_rfl) v hv)
      · exact fun v hv => okV_bnd 3 v (List.all_eq_true.1 (show ([.int .i64 256, .slice (some ⟨65, 0, none⟩) 4 (big + 65)] : List Value).all (okV (keeps 64 68 id (fun l => Nat.blt l 68)) 3) = true from by kernel_rfl) v hv)
  · simp only [anewC, arH, List.mem_cons, List.not_mem_nil, or_false] at hx
    rcases hx with rfl | rfl | rfl | rfl
    · exact absurd rfl hne
    · exact absurd rfl hne
    · exact z_flat
    · exact u8s_flat zs
def rowsH : Sy.Heap := [(0, ⟨false, none, rowsC, none⟩)]
end Go.Proofs.YtagacmljbgkmoaaGreatDoor
namespace Go.Proofs.YtagacmljbgkmoaaGreatDoor
set_option linter.unusedVariables false
set_option linter.unusedSimpArgs false
set_option linter.unusedSectionVars false
open Go.RowKit
open Sy
def cpV (a b c d e f g : Int) (v : Bool) : List Value := [.int .u32 a, .int .u8 b, .int .u16 c, .int .u16 d, .int .u16 e, .int .u16 f, .int .u32 g, .bool v]
def atN {α : Type} (d : α) (i : Nat) : List (Nat × α) → α
  | [] => d
  | x :: l => bif Nat.beq x.1 i then x.2 else atN d i l
def frL (l : List (Nat × List Value)) : Nat → Nat → List Value
  | _, 0 => []
  | i, n + 1 => atN (cpV 0 0 0 0 0 0 0 false) i l ++ frL l (i + 1) n
def frV (l : List (Nat × List Value)) : Value := .agg ⟨frL l 0 17⟩
def numL (k : IntKind) : List (Nat × Int) → Nat → Nat → List Value
  | _, _, 0 => []
  | [], i, n + 1 => .int k 0 :: numL k [] (i + 1) n
  | x :: l, i, n + 1 => bif Nat.beq x.1 i then .int k x.2 :: numL k l (i + 1) n else .int k 0 :: numL k (x :: l) (i + 1) n
def arC (rw : Bool) (by' tg : List (Nat × Int)) : Sy.Heap := [(67, ⟨rw, none, [.pointer (some ⟨66, 0, none⟩), .slice (some ⟨64, 0, none⟩) 4096 (big + 64)], none⟩), (66, ⟨rw, none, [.int .i64 256, .slice (some ⟨65, 0, none⟩) 4 (big + 65)], none⟩), (65, ⟨rw, some (65, 1), numL .u64 tg 0 4, none⟩), (64, ⟨rw, some (64, 1), numL .u8 by' 0 4096, none⟩)]
def arLo : List (Nat × Nat) := [(65, 4), (64, 4096)]
def aluD : FuncId → List Value → Option Con := fun f args => bif Nat.beq f 39 then
  match args with
  | [.int .i64 code, .int .u32 a, .int .u32 b] => bif aluB code a b then some (Con.pure [.int .i64 code, .int .u32 a, .int .u32 b] (aluV code a b)) else none
  | _ => none
  else none
theorem aluD_ok : ∀ f args c, aluD f args = some c → ConOk Tryz.prog f 3 c ∧ FlatC c := by
  intro f args c h
  unfold aluD at h
  obtain ⟨h2, h3⟩ := bif_some h
  split at h3
  · rename_i code a b
    obtain ⟨h4, h5⟩ := bif_some h3
    cases h5
    refine ⟨selAlu_ok f [.int .i64 code, .int .u32 a, .int .u32 b] ⟨64, [], [], 0, [], 0, True⟩ _ [] (aluB code a b = true) ?_ h4, ⟨fun x hx => by cases hx⟩⟩
    unfold selAlu
    rw [h2]
    rfl
  · cases h3
def KRun (f : FuncId) (c : Con) : Prop := ConRun 3 (evF Tryz.prog (baseD 3 aluD noBase) noLoop 1000 40) f c
theorem kRun_ok {f : FuncId} {c : Con} (h : KRun f c = True) : ConOk Tryz.prog f 3 c ∧ FlatC c := conRun_ok (run_ok c_names (baseD_ok aluD_ok (noBase_ok _)) (noLoop_ok _) 40) h
def newC : Con := ⟨[.int .i64 16], 64, [], [], .tuple ⟨[.pointer (some ⟨67, 0, none⟩), .int .i64 0]⟩, 68, arC true [] [], arLo⟩
theorem new_run : KRun 9 newC = True := by kernel_rfl
end Go.Proofs.YtagacmljbgkmoaaGreatDoor
namespace Go.Proofs.YtagacmljbgkmoaaGreatDoor
set_option linter.unusedVariables false
set_option linter.unusedSimpArgs false
set_option linter.unusedSectionVars false
open Go.RowKit
open Sy
set_option maxRecDepth 100000
def leB : Nat → Nat → List UInt8
  | 0, _ => []
  | w + 1, n => UInt8.ofNat (n % 256) :: leB w (n / 256)
def putC (w v : Int) : Con := Con.pure [.string ⟨⟨[]⟩⟩, .int .i64 w, .int .u32 v] (.string ⟨⟨leB w.toNat v.toNat⟩⟩)
def putOk (w v : Int) : Prop := (w = 1 ∨ w = 2 ∨ w = 4) ∧ 0 ≤ v ∧ v < 4294967296
def tgBlk : Sy.Blk := ⟨false, none, [.int .i64 256, .slice (some ⟨65, 0, none⟩) 4 (big + 65)], none⟩
def clrC (x y : Int) : Con := ⟨[.pointer (some ⟨66, 0, none⟩), .int .i64 x, .int .i64 y], 68, [(66, tgBlk), (65, ⟨true, some (65, 1), z256, none⟩)], [(65, 4)], .int .i64 0, 68, [(65, ⟨true, some (65, 1), z256, none⟩)], [(65, 4)]⟩
def clrOk (x y : Int) : Prop := y = x + 1 ∧ 16 ≤ x ∧ x < 20
def selMv : SelC := fun f args _ => bif Nat.beq f 86 then
  match args with
  | [_, .int .i64 w, .int .u32 v] => some (putC w v, [], putOk w v)
  | _ => none
  else bif Nat.beq f 158 then
  match args with
  | [_, .int .i64 x, .int .i64 y] => some (clrC x y, [64, 65, 66, 67], clrOk x y)
  | _ => none
  else none
def arZ (rw : Bool) (zs : List UInt8) : Sy.Heap := [(67, ⟨rw, none, [.pointer (some ⟨66, 0, none⟩), .slice (some ⟨64, 0, none⟩) 4096 (big + 64)], none⟩), (66, ⟨rw, none, [.int .i64 256, .slice (some ⟨65, 0, none⟩) 4 (big + 65)], none⟩), (65, ⟨rw, some (65, 1), z256, none⟩), (64, ⟨rw, some (64, 1), u8s zs, none⟩)]
def frM (p v : Int) : Value := frV [(1, cpV 256 0 256 320 27 0 0 true), (5, cpV v 0 0 0 0 0 0 false), (16, cpV p 0 0 64 5 0 0 true)]
def inM (op a m : Int) : Value := .agg ⟨[.int .i64 op, .int .i64 a, .int .i64 1, .int .i64 0, .int .i64 m]⟩
def aPtr : Value := .pointer (some ⟨67, 0, none⟩)
theorem mv_s0 (v : Int) (m : Int) (zs : List UInt8) : evF Tryz.prog (baseC 3 selMv) noLoop 100 40 13 [frM (0 : Int) v, inM (20 : Int) (5 : Int) m, aPtr] { n := 68, h := arZ true zs ++ rowsH, lo := arLo, esc := 0, T := [(0, true), (1, true), (2, true), (3, true), (4, true), (5, true), (6, true), (7, true), (8, true), (9, true), (10, true), (11, true), (12, false), (13, false), (14, false), (15, false), (16, false), (17, false), (18, false), (19, true), (20, true), (21, true), (22, true), (23, true), (24, true), (25, true), (26, true), (27, true), (28, true), (29, true), (30, true), (31, true), (32, false), (33, false), (34, false), (35, false), (36, false), (37, false), (38, false), (39, true), (40, true), (41, true), (42, true), (43, true), (44, true), (45, true), (46, true), (47, true), (48, true), (49, true), (50, true), (51, true), (52, true), (53, true), (54, true), (55, true), (56, true), (57, false), (58, false), (59, false), (60, false), (61, false), (62, false), (63, false), (64, false), (65, false), (66, false), (67, true), (68, true), (69, true), (70, false), (71, false), (72, false), (73, false), (74, false), (75, false), (76, false), (77, false), (78, false), (79, false), (80, false), (81, false), (82, false), (83, true), (84, true), (85, false), (86, true), (87, false), (88, false), (89, false), (90, false), (91, false), (92, false), (93, false), (94, false), (95, false), (96, false), (97, false), (98, false), (99, false), (100, true), (101, true), (102, false), (103, false), (104, false), (105, true), (106, true), (107, false), (108, false), (109, false), (110, false), (111, false), (112, false), (113, false), (114, false), (115, false), (116, false), (117, false), (118, false), (119, false), (120, false), (121, false), (122, false), (123, false), (124, false), (125, false), (126, false), (127, false), (128, false), (129, false), (130, false), (131, false), (132, false), (133, false), (134, false), (135, false), (136, false), (137, false), (138, false), (139, false), (140, false), (141, false), (142, false), (143, false), (144, true), (145, true), (146, false), (147, true), (148, true), (149, false), (150, false), (151, true), (152, true), (153, true), (154, false), (155, false), (156, false), (157, false), (158, false), (159, false), (160, false), (161, false), (162, false), (163, false), (164, false), (165, false), (166, true), (167, true), (168, true), (169, true), (170, true), (171, true), (172, true), (173, true), (174, true), (175, true), (176, true), (177, true), (178, true), (179, false), (180, false), (181, false), (182, false), (183, false), (184, true), (185, true), (186, true), (187, true), (188, true), (189, false), (190, false), (191, false), (192, false), (193, false), (194, false), (195, false), (196, false), (197, false), (198, false), (199, false), (200, false), (201, false), (202, false), (203, false), (204, false), (205, false), (206, false), (207, false), (208, false), (209, false), (210, true), (211, true), (212, true), (213, false), (214, false), (215, false), (216, false), (217, false), (218, false), (219, true), (220, true), (221, true), (222, true), (223, true), (224, true), (225, true), (226, true), (227, true), (228, true), (229, true), (230, true), (231, true), (232, true), (233, true), (234, true), (235, true), (236, true), (237, true), (238, true), (239, true), (240, true), (241, false), (242, true), (243, true), (244, false)], k := 0, O := True : St } = some (Value.tuple { toList := [Value.agg { toList := [Value.int IntKind.u32 (0 : Int), Value.int IntKind.u8 (0 : Int), Value.int IntKind.u16 (0 : Int), Value.int IntKind.u16 (0 : Int), Value.int IntKind.u16 (0 : Int), Value.int IntKind.u16 (0 : Int), Value.int IntKind.u32 (0 : Int), Value.bool false, Value.int IntKind.u32 (256 : Int), Value.int IntKind.u8 (0 : Int), Value.int IntKind.u16 (256 : Int), Value.int IntKind.u16 (320 : Int), Value.int IntKind.u16 (27 : Int), Value.int IntKind.u16 (0 : Int), Value.int IntKind.u32 (0 : Int), Value.bool true, Value.int IntKind.u32 (0 : Int), Value.int IntKind.u8 (0 : Int), Value.int IntKind.u16 (0 : Int), Value.int IntKind.u16 (0 : Int), Value.int IntKind.u16 (0 : Int), Value.int IntKind.u16 (0 : Int), Value.int IntKind.u32 (0 : Int), Value.bool false, Value.int IntKind.u32 (0 : Int), Value.int IntKind.u8 (0 : Int), Value.int IntKind.u16 (0 : Int), Value.int IntKind.u16 (0 : Int), Value.int IntKind.u16 (0 : Int), Value.int IntKind.u16 (0 : Int), Value.int IntKind.u32 (0 : Int), Value.bool false, Value.int IntKind.u32 (0 : Int), Value.int IntKind.u8 (0 : Int), Value.int IntKind.u16 (0 : Int), Value.int IntKind.u16 (0 : Int), Value.int IntKind.u16 (0 : Int), Value.int IntKind.u16 (0 : Int), Value.int IntKind.u32 (0 : Int), Value.bool false, Value.int IntKind.u32 v, Value.int IntKind.u8 (0 : Int), Value.int IntKind.u16 (0 : Int), Value.int IntKind.u16 (0 : Int), Value.int IntKind.u16 (0 : Int), Value.int IntKind.u16 (0 : Int), Value.int IntKind.u32 (0 : Int), Value.bool false, Value.int IntKind.u32 (0 : Int), Value.int IntKind.u8 (0 : Int), Value.int IntKind.u16 (0 : Int), Value.int IntKind.u16 (0 : Int), Value.int IntKind.u16 (0 : Int), Value.int IntKind.u16 (0 : Int), Value.int IntKind.u32 (0 : Int), Value.bool false, Value.int IntKind.u32 (0 : Int), Value.int IntKind.u8 (0 : Int), Value.int IntKind.u16 (0 : Int), Value.int IntKind.u16 (0 : Int), Value.int IntKind.u16 (0 : Int), Value.int IntKind.u16 (0 : Int), Value.int IntKind.u32 (0 : Int), Value.bool false, Value.int IntKind.u32 (0 : Int), Value.int IntKind.u8 (0 : Int), Value.int IntKind.u16 (0 : Int), Value.int IntKind.u16 (0 : Int), Value.int IntKind.u16 (0 : Int), Value.int IntKind.u16 (0 : Int), Value.int IntKind.u32 (0 : Int), Value.bool false, Value.int IntKind.u32 (0 : Int), Value.int IntKind.u8 (0 : Int), Value.int IntKind.u16 (0 : Int), Value.int IntKind.u16 (0 : Int), Value.int IntKind.u16 (0 : Int), Value.int IntKind.u16 (0 : Int), Value.int IntKind.u32 (0 : Int), Value.bool false, Value.int IntKind.u32 (0 : Int), Value.int IntKind.u8 (0 : Int), Value.int IntKind.u16 (0 : Int), Value.int IntKind.u16 (0 : Int), Value.int IntKind.u16 (0 : Int), Value.int IntKind.u16 (0 : Int), Value.int IntKind.u32 (0 : Int), Value.bool false, Value.int IntKind.u32 (0 : Int), Value.int IntKind.u8 (0 : Int), Value.int IntKind.u16 (0 : Int), Value.int IntKind.u16 (0 : Int), Value.int IntKind.u16 (0 : Int), Value.int IntKind.u16 (0 : Int), Value.int IntKind.u32 (0 : Int), Value.bool false, Value.int IntKind.u32 (0 : Int), Value.int IntKind.u8 (0 : Int), Value.int IntKind.u16 (0 : Int), Value.int IntKind.u16 (0 : Int), Value.int IntKind.u16 (0 : Int), Value.int IntKind.u16 (0 : Int), Value.int IntKind.u32 (0 : Int), Value.bool false, Value.int IntKind.u32 (0 : Int), Value.int IntKind.u8 (0 : Int), Value.int IntKind.u16 (0 : Int), Value.int IntKind.u16 (0 : Int), Value.int IntKind.u16 (0 : Int), Value.int IntKind.u16 (0 : Int), Value.int IntKind.u32 (0 : Int), Value.bool false, Value.int IntKind.u32 (0 : Int), Value.int IntKind.u8 (0 : Int), Value.int IntKind.u16 (0 : Int), Value.int IntKind.u16 (0 : Int), Value.int IntKind.u16 (0 : Int), Value.int IntKind.u16 (0 : Int), Value.int IntKind.u32 (0 : Int), Value.bool false, Value.int IntKind.u32 (0 : Int), Value.int IntKind.u8 (0 : Int), Value.int IntKind.u16 (0 : Int), Value.int IntKind.u16 (0 : Int), Value.int IntKind.u16 (0 : Int), Value.int IntKind.u16 (0 : Int), Value.int IntKind.u32 (0 : Int), Value.bool false, Value.int IntKind.u32 (4 : Int), Value.int IntKind.u8 (0 : Int), Value.int IntKind.u16 (0 : Int), Value.int IntKind.u16 (64 : Int), Value.int IntKind.u16 (5 : Int), Value.int IntKind.u16 (0 : Int), Value.int IntKind.u32 (0 : Int), Value.bool true] }, Value.int IntKind.i64 (0 : Int)] }, { n := 131, h := [(65, { rw := true, op := some (65, 1), cells := [Value.int IntKind.u64 (0 : Int), Value.int IntKind.u64 (0 : Int), Value.int IntKind.u64 (0 : Int), Value.int IntKind.u64 (0 : Int)], it := none : Sy.Blk }), (67, { rw := true, op := none, cells := [Value.pointer (some { block := 66, off := 0 }), Value.slice (some { block := 64, off := 0 }) 4096 9223372036854775872], it := none : Sy.Blk }), (66, { rw := true, op := none, cells := [Value.int IntKind.i64 (256 : Int), Value.slice (some { block := 65, off := 0 }) 4 9223372036854775873], it := none : Sy.Blk }), (64, { rw := true, op := some (64, 1), cells := setAt (0 + (IntKind.u32.wrap ((256 : Int) + IntKind.u32.wrap m)).toNat * 1) (List.take (Nat.min 1 (4096 - (IntKind.u32.wrap ((256 : Int) + IntKind.u32.wrap m)).toNat) * 1) [Value.int IntKind.u8 (↑(UInt8.ofNat (v.toNat % 256)).toNat : Int)]) (u8s zs), it := none : Sy.Blk }), (0, { rw := false, op := none, cells := rowsC, it := none : Sy.Blk })], lo := [(65, 4), (129, 4096 - (IntKind.u32.wrap ((256 : Int) + IntKind.u32.wrap m)).toNat), (128, 1), (65, 4), (64, 4096)], esc := 0, T := [], k := 245, O := (((bif hasN (0 + (IntKind.u32.wrap ((256 : Int) + IntKind.u32.wrap m)).toNat * 1 + lenT (List.take (Nat.min 1 (4096 - (IntKind.u32.wrap ((256 : Int) + IntKind.u32.wrap m)).toNat) * 1) [Value.int IntKind.u8 (↑(UInt8.ofNat (v.toNat % 256)).toNat : Int)])) (u8s zs) && oneC (List.take (Nat.min 1 (4096 - (IntKind.u32.wrap ((256 : Int) + IntKind.u32.wrap m)).toNat) * 1) [Value.int IntKind.u8 (↑(UInt8.ofNat (v.toNat % 256)).toNat : Int)]) && (List.take (Nat.min 1 (4096 - (IntKind.u32.wrap ((256 : Int) + IntKind.u32.wrap m)).toNat) * 1) [Value.int IntKind.u8 (↑(UInt8.ofNat (v.toNat % 256)).toNat : Int)]).all flat0 then bif (lenT (List.take (Nat.min 1 (4096 - (IntKind.u32.wrap ((256 : Int) + IntKind.u32.wrap m)).toNat) * 1) [Value.int IntKind.u8 (↑(UInt8.ofNat (v.toNat % 256)).toNat : Int)])).beq (Nat.min 1 (4096 - (IntKind.u32.wrap ((256 : Int) + IntKind.u32.wrap m)).toNat) * 1) then bif hasN (0 + Nat.min 1 (4096 - (IntKind.u32.wrap ((256 : Int) + IntKind.u32.wrap m)).toNat) * 1) [Value.int IntKind.u8 (↑(UInt8.ofNat (v.toNat % 256)).toNat : Int)] then (bif decide ((0 : Int) ≤ IntKind.u32.wrap ((256 : Int) + IntKind.u32.wrap m)) && decide (IntKind.u32.wrap ((256 : Int) + IntKind.u32.wrap m) ≤ (4096 : Int)) then ((((((((((((((((((((((((((((((((((((((((((((((((((((((((((((((((((((((((((((((((((((((((((((((((((((((((((((((((((((((((((((((((((((((((((((((((((((((((((((((((((((((((((((((((((((((((((((((((((((((((((((((((((((((((((((((((((((((((((((((((((True ∧ true = true) ∧ true = true) ∧ true = true) ∧ true = true) ∧ true = true) ∧ true = true) ∧ true = true) ∧ true = true) ∧ true = true) ∧ true = true) ∧ true = true) ∧ true = true) ∧ false = false) ∧ false = false) ∧ false = false) ∧ false = false) ∧ false = false) ∧ false = false) ∧ false = false) ∧ true = true) ∧ true = true) ∧ true = true) ∧ true = true) ∧ true = true) ∧ true = true) ∧ true = true) ∧ true = true) ∧ true = true) ∧ true = true) ∧ true = true) ∧ true = true) ∧ true = true) ∧ false = false) ∧ false = false) ∧ false = false) ∧ false = false) ∧ false = false) ∧ false = false) ∧ false = false) ∧ true = true) ∧ true = true) ∧ true = true) ∧ true = true) ∧ true = true) ∧ true = true) ∧ true = true) ∧ true = true) ∧ true = true) ∧ true = true) ∧ true = true) ∧ true = true) ∧ true = true) ∧ true = true) ∧ true = true) ∧ true = true) ∧ true = true) ∧ true = true) ∧ false = false) ∧ false = false) ∧ false = false) ∧ false = false) ∧ false = false) ∧ false = false) ∧ false = false) ∧ false = false) ∧ false = false) ∧ false = false) ∧ true = true) ∧ true = true) ∧ true = true) ∧ false = false) ∧ false = false) ∧ false = false) ∧ false = false) ∧ false = false) ∧ false = false) ∧ false = false) ∧ false = false) ∧ false = false) ∧ false = false) ∧ false = false) ∧ false = false) ∧ false = false) ∧ true = true) ∧ true = true) ∧ false = false) ∧ true = true) ∧ false = false) ∧ false = false) ∧ false = false) ∧ false = false) ∧ false = false) ∧ false = false) ∧ false = false) ∧ false = false) ∧ false = false) ∧ false = false) ∧ false = false) ∧ false = false) ∧ false = false) ∧ true = true) ∧ true = true) ∧ false = false) ∧ false = false) ∧ false = false) ∧ true = true) ∧ true = true) ∧ false = false) ∧ false = false) ∧ false = false) ∧ false = false) ∧ false = false) ∧ false = false) ∧ decide (m < (-2048 : Int)) = false) ∧ decide (m < (-2048 : Int)) = false) ∧ decide (m < (-2048 : Int)) = false) ∧ decide (m < (-2048 : Int)) = false) ∧ decide (m < (-2048 : Int)) = false) ∧ decide (m < (-2048 : Int)) = false) ∧ false = false) ∧ false = false) ∧ decide (m ≥ (2048 : Int)) = false) ∧ decide (m ≥ (2048 : Int)) = false) ∧ decide (m ≥ (2048 : Int)) = false) ∧ decide (m ≥ (2048 : Int)) = false) ∧ decide (m ≥ (2048 : Int)) = false) ∧ false = false) ∧ false = false) ∧ false = false) ∧ false = false) ∧ false = false) ∧ false = false) ∧ false = false) ∧ false = false) ∧ false = false) ∧ false = false) ∧ false = false) ∧ false = false) ∧ false = false) ∧ false = false) ∧ false = false) ∧ false = false) ∧ false = false) ∧ false = false) ∧ true = true) ∧ true = true) ∧ false = false) ∧ true = true) ∧ true = true) ∧ false = false) ∧ false = false) ∧ true = true) ∧ true = true) ∧ true = true) ∧ false = false) ∧ false = false) ∧ false = false) ∧ false = false) ∧ false = false) ∧ false = false) ∧ false = false) ∧ false = false) ∧ false = false) ∧ false = false) ∧ false = false) ∧ false = false) ∧ true = true) ∧ true = true) ∧ true = true) ∧ true = true) ∧ true = true) ∧ true = true) ∧ true = true) ∧ true = true) ∧ true = true) ∧ true = true) ∧ true = true) ∧ true = true) ∧ true = true) ∧ false = false) ∧ false = false) ∧ false = false) ∧ false = false) ∧ false = false) ∧ decide (IntKind.u32.wrap ((256 : Int) + IntKind.u32.wrap m) ≥ (256 : Int)) = true) ∧ decide (IntKind.u32.wrap ((256 : Int) + IntKind.u32.wrap m) ≥ (256 : Int)) = true) ∧ decide (IntKind.u32.wrap ((256 : Int) + IntKind.u32.wrap m) ≥ (256 : Int)) = true) ∧ decide (IntKind.u32.wrap ((256 : Int) + IntKind.u32.wrap m) ≥ (256 : Int)) = true) ∧ decide (IntKind.u32.wrap ((256 : Int) + IntKind.u32.wrap m) ≥ (256 : Int)) = true) ∧ (!decide (IntKind.u64.wrap (IntKind.u64.wrap (IntKind.u32.wrap ((256 : Int) + IntKind.u32.wrap m)) + (1 : Int)) ≤ (320 : Int))) = false) ∧ (!decide (IntKind.u64.wrap (IntKind.u64.wrap (IntKind.u32.wrap ((256 : Int) + IntKind.u32.wrap m)) + (1 : Int)) ≤ (320 : Int))) = false) ∧ (!decide (IntKind.u64.wrap (IntKind.u64.wrap (IntKind.u32.wrap ((256 : Int) + IntKind.u32.wrap m)) + (1 : Int)) ≤ (320 : Int))) = false) ∧ (!decide (IntKind.u64.wrap (IntKind.u64.wrap (IntKind.u32.wrap ((256 : Int) + IntKind.u32.wrap m)) + (1 : Int)) ≤ (320 : Int))) = false) ∧ (!decide (IntKind.u64.wrap (IntKind.u64.wrap (IntKind.u32.wrap ((256 : Int) + IntKind.u32.wrap m)) + (1 : Int)) ≤ (320 : Int))) = false) ∧ (!decide (IntKind.u64.wrap (IntKind.u64.wrap (IntKind.u32.wrap ((256 : Int) + IntKind.u32.wrap m)) + (1 : Int)) ≤ (320 : Int))) = false) ∧ (!decide (IntKind.u64.wrap (IntKind.u64.wrap (IntKind.u32.wrap ((256 : Int) + IntKind.u32.wrap m)) + (1 : Int)) ≤ (320 : Int))) = false) ∧ false = false) ∧ false = false) ∧ false = false) ∧ false = false) ∧ false = false) ∧ false = false) ∧ false = false) ∧ (!decide (IntKind.u64.wrap (IntKind.u64.wrap (IntKind.u32.wrap ((256 : Int) + IntKind.u32.wrap m)) + (1 : Int)) ≤ (320 : Int))) = false) ∧ (!decide (IntKind.u64.wrap (IntKind.u64.wrap (IntKind.u32.wrap ((256 : Int) + IntKind.u32.wrap m)) + (1 : Int)) ≤ (320 : Int))) = false) ∧ (!decide (IntKind.u64.wrap (IntKind.u64.wrap (IntKind.u32.wrap ((256 : Int) + IntKind.u32.wrap m)) + (1 : Int)) ≤ (320 : Int))) = false) ∧ decide (IntKind.u64.wrap (IntKind.u64.wrap (IntKind.u32.wrap ((256 : Int) + IntKind.u32.wrap m)) + (1 : Int)) > (4096 : Int)) = false) ∧ ((IntKind.u32.wrap ((256 : Int) + IntKind.u32.wrap m)).tmod (1 : Int) != (0 : Int)) = false) ∧ false = false) ∧ false = false) ∧ true = true) ∧ true = true) ∧ (((1 : Int) = (1 : Int) ∨ (1 : Int) = (2 : Int) ∨ (1 : Int) = (4 : Int)) ∧ (0 : Int) ≤ v ∧ v < (4294967296 : Int)) ∧ (Value.string { data := #[] : ByteArray } = Value.string { data := { toList := [] : Array UInt8 } : ByteArray } ∧ Value.int IntKind.i64 (1 : Int) = Value.int IntKind.i64 (1 : Int) ∧ Value.int IntKind.u32 v = Value.int IntKind.u32 v ∧ True) ∧ True ∧ True) ∧ true = true) ∧ false = false) ∧ false = false) ∧ false = false) ∧ false = false) ∧ false = false) ∧ false = false) ∧ true = true) ∧ true = true) ∧ true = true) ∧ true = true) ∧ true = true) ∧ true = true) ∧ true = true) ∧ true = true) ∧ true = true) ∧ true = true) ∧ true = true) ∧ true = true) ∧ true = true) ∧ true = true) ∧ true = true) ∧ true = true) ∧ true = true) ∧ true = true) ∧ true = true) ∧ true = true) ∧ true = true) ∧ true = true) ∧ (!decide (IntKind.i64.wrap (IntKind.u32.wrap ((256 : Int) + IntKind.u32.wrap m)) ≤ (4095 : Int))) = false else False) ∧ (IntKind.u32.wrap ((256 : Int) + IntKind.u32.wrap m)).toNat.blt 4096 = true else False else False else False) ∧ true = true) ∧ (IntKind.i64.wrap (IntKind.i64.wrap ((IntKind.i64.wrap (IntKind.i64.wrap (IntKind.i64.wrap (IntKind.u32.wrap ((256 : Int) + IntKind.u32.wrap m)) + (1 : Int)) - (1 : Int))).tdiv (16 : Int)) + (1 : Int)) = IntKind.i64.wrap ((IntKind.i64.wrap (IntKind.u32.wrap ((256 : Int) + IntKind.u32.wrap m))).tdiv (16 : Int)) + (1 : Int) ∧ (16 : Int) ≤ IntKind.i64.wrap ((IntKind.i64.wrap (IntKind.u32.wrap ((256 : Int) + IntKind.u32.wrap m))).tdiv (16 : Int)) ∧ IntKind.i64.wrap ((IntKind.i64.wrap (IntKind.u32.wrap ((256 : Int) + IntKind.u32.wrap m))).tdiv (16 : Int)) < (20 : Int)) ∧ (Value.pointer (some { block := 66, off := 0 }) = Value.pointer (some { block := 66, off := 0 }) ∧ Value.int IntKind.i64 (IntKind.i64.wrap ((IntKind.i64.wrap (IntKind.u32.wrap ((256 : Int) + IntKind.u32.wrap m))).tdiv (16 : Int))) = Value.int IntKind.i64 (IntKind.i64.wrap ((IntKind.i64.wrap (IntKind.u32.wrap ((256 : Int) + IntKind.u32.wrap m))).tdiv (16 : Int))) ∧ Value.int IntKind.i64 (IntKind.i64.wrap (IntKind.i64.wrap ((IntKind.i64.wrap (IntKind.i64.wrap (IntKind.i64.wrap (IntKind.u32.wrap ((256 : Int) + IntKind.u32.wrap m)) + (1 : Int)) - (1 : Int))).tdiv (16 : Int)) + (1 : Int))) = Value.int IntKind.i64 (IntKind.i64.wrap (IntKind.i64.wrap ((IntKind.i64.wrap (IntKind.i64.wrap (IntKind.i64.wrap (IntKind.u32.wrap ((256 : Int) + IntKind.u32.wrap m)) + (1 : Int)) - (1 : Int))).tdiv (16 : Int)) + (1 : Int))) ∧ True) ∧ ((true = true ∧ true = true ∧ true = true ∧ true = true ∧ true = true ∧ True ∧ [Value.int IntKind.i64 (256 : Int), Value.slice (some { block := 65, off := 0 }) 4 9223372036854775873] = [Value.int IntKind.i64 (256 : Int), Value.slice (some { block := 65, off := 0 }) 4 9223372036854775873]) ∧ (true = true ∧ true = true ∧ true = true ∧ true = true ∧ true = true ∧ True ∧ [Value.int IntKind.u64 (0 : Int), Value.int IntKind.u64 (0 : Int), Value.int IntKind.u64 (0 : Int), Value.int IntKind.u64 (0 : Int)] = [Value.int IntKind.u64 (0 : Int), Value.int IntKind.u64 (0 : Int), Value.int IntKind.u64 (0 : Int), Value.int IntKind.u64 (0 : Int)]) ∧ True) ∧ (true = true ∧ 4 ≤ 4) ∧ True) ∧ false = false : St }) := by kernel_rfl
theorem mv_s1 (v : Int) (m : Int) (zs : List UInt8) : evF Tryz.prog (baseC 3 selMv) noLoop 100 40 13 [frM (0 : Int) v, inM (21 : Int) (5 : Int) m, aPtr] { n := 68, h := arZ true zs ++ rowsH, lo := arLo, esc := 0, T := [(0, true), (1, true), (2, true), (3, true), (4, true), (5, true), (6, true), (7, true), (8, true), (9, true), (10, true), (11, true), (12, false), (13, false), (14, false), (15, false), (16, false), (17, false), (18, false), (19, true), (20, true), (21, true), (22, true), (23, true), (24, true), (25, true), (26, true), (27, true), (28, true), (29, true), (30, true), (31, true), (32, false), (33, false), (34, false), (35, false), (36, false), (37, false), (38, false), (39, true), (40, true), (41, true), (42, true), (43, true), (44, true), (45, true), (46, true), (47, true), (48, true), (49, true), (50, true), (51, true), (52, true), (53, true), (54, true), (55, true), (56, true), (57, false), (58, false), (59, false), (60, false), (61, false), (62, false), (63, false), (64, false), (65, false), (66, false), (67, true), (68, true), (69, true), (70, false), (71, false), (72, false), (73, false), (74, false), (75, false), (76, false), (77, false), (78, false), (79, false), (80, false), (81, false), (82, false), (83, true), (84, true), (85, false), (86, true), (87, false), (88, false), (89, false), (90, false), (91, false), (92, false), (93, false), (94, false), (95, false), (96, false), (97, false), (98, false), (99, false), (100, true), (101, true), (102, false), (103, false), (104, false), (105, true), (106, true), (107, false), (108, false), (109, false), (110, false), (111, false), (112, false), (113, false), (114, false), (115, false), (116, false), (117, false), (118, false), (119, false), (120, false), (121, false), (122, false), (123, false), (124, false), (125, false), (126, false), (127, false), (128, false), (129, false), (130, false), (131, false), (132, false), (133, false), (134, false), (135, false), (136, false), (137, false), (138, false), (139, false), (140, false), (141, false), (142, false), (143, false), (144, false), (145, false), (146, true), (147, true), (148, false), (149, false), (150, false), (151, true), (152, true), (153, false), (154, false), (155, false), (156, true), (157, true), (158, true), (159, false), (160, false), (161, false), (162, false), (163, false), (164, false), (165, false), (166, false), (167, false), (168, false), (169, false), (170, false), (171, true), (172, true), (173, true), (174, true), (175, true), (176, true), (177, true), (178, true), (179, true), (180, true), (181, true), (182, true), (183, true), (184, false), (185, false), (186, false), (187, false), (188, false), (189, true), (190, true), (191, true), (192, true), (193, true), (194, false), (195, false), (196, false), (197, false), (198, false), (199, false), (200, false), (201, false), (202, false), (203, false), (204, false), (205, false), (206, false), (207, false), (208, false), (209, false), (210, false), (211, false), (212, false), (213, false), (214, false), (215, false), (216, true), (217, true), (218, true), (219, false), (220, false), (221, false), (222, false), (223, false), (224, false), (225, true), (226, true), (227, true), (228, true), (229, true), (230, true), (231, true), (232, true), (233, true), (234, true), (235, true), (236, true), (237, true), (238, true), (239, true), (240, true), (241, true), (242, true), (243, true), (244, true), (245, true), (246, true), (247, false), (248, true), (249, true), (250, false)], k := 0, O := True : St } = some (Value.tuple { toList := [Value.agg { toList := [Value.int IntKind.u32 (0 : Int), Value.int IntKind.u8 (0 : Int), Value.int IntKind.u16 (0 : Int), Value.int IntKind.u16 (0 : Int), Value.int IntKind.u16 (0 : Int), Value.int IntKind.u16 (0 : Int), Value.int IntKind.u32 (0 : Int), Value.bool false, Value.int IntKind.u32 (256 : Int), Value.int IntKind.u8 (0 : Int), Value.int IntKind.u16 (256 : Int), Value.int IntKind.u16 (320 : Int), Value.int IntKind.u16 (27 : Int), Value.int IntKind.u16 (0 : Int), Value.int IntKind.u32 (0 : Int), Value.bool true, Value.int IntKind.u32 (0 : Int), Value.int IntKind.u8 (0 : Int), Value.int IntKind.u16 (0 : Int), Value.int IntKind.u16 (0 : Int), Value.int IntKind.u16 (0 : Int), Value.int IntKind.u16 (0 : Int), Value.int IntKind.u32 (0 : Int), Value.bool false, Value.int IntKind.u32 (0 : Int), Value.int IntKind.u8 (0 : Int), Value.int IntKind.u16 (0 : Int), Value.int IntKind.u16 (0 : Int), Value.int IntKind.u16 (0 : Int), Value.int IntKind.u16 (0 : Int), Value.int IntKind.u32 (0 : Int), Value.bool false, Value.int IntKind.u32 (0 : Int), Value.int IntKind.u8 (0 : Int), Value.int IntKind.u16 (0 : Int), Value.int IntKind.u16 (0 : Int), Value.int IntKind.u16 (0 : Int), Value.int IntKind.u16 (0 : Int), Value.int IntKind.u32 (0 : Int), Value.bool false, Value.int IntKind.u32 v, Value.int IntKind.u8 (0 : Int), Value.int IntKind.u16 (0 : Int), Value.int IntKind.u16 (0 : Int), Value.int IntKind.u16 (0 : Int), Value.int IntKind.u16 (0 : Int), Value.int IntKind.u32 (0 : Int), Value.bool false, Value.int IntKind.u32 (0 : Int), Value.int IntKind.u8 (0 : Int), Value.int IntKind.u16 (0 : Int), Value.int IntKind.u16 (0 : Int), Value.int IntKind.u16 (0 : Int), Value.int IntKind.u16 (0 : Int), Value.int IntKind.u32 (0 : Int), Value.bool false, Value.int IntKind.u32 (0 : Int), Value.int IntKind.u8 (0 : Int), Value.int IntKind.u16 (0 : Int), Value.int IntKind.u16 (0 : Int), Value.int IntKind.u16 (0 : Int), Value.int IntKind.u16 (0 : Int), Value.int IntKind.u32 (0 : Int), Value.bool false, Value.int IntKind.u32 (0 : Int), Value.int IntKind.u8 (0 : Int), Value.int IntKind.u16 (0 : Int), Value.int IntKind.u16 (0 : Int), Value.int IntKind.u16 (0 : Int), Value.int IntKind.u16 (0 : Int), Value.int IntKind.u32 (0 : Int), Value.bool false, Value.int IntKind.u32 (0 : Int), Value.int IntKind.u8 (0 : Int), Value.int IntKind.u16 (0 : Int), Value.int IntKind.u16 (0 : Int), Value.int IntKind.u16 (0 : Int), Value.int IntKind.u16 (0 : Int), Value.int IntKind.u32 (0 : Int), Value.bool false, Value.int IntKind.u32 (0 : Int), Value.int IntKind.u8 (0 : Int), Value.int IntKind.u16 (0 : Int), Value.int IntKind.u16 (0 : Int), Value.int IntKind.u16 (0 : Int), Value.int IntKind.u16 (0 : Int), Value.int IntKind.u32 (0 : Int), Value.bool false, Value.int IntKind.u32 (0 : Int), Value.int IntKind.u8 (0 : Int), Value.int IntKind.u16 (0 : Int), Value.int IntKind.u16 (0 : Int), Value.int IntKind.u16 (0 : Int), Value.int IntKind.u16 (0 : Int), Value.int IntKind.u32 (0 : Int), Value.bool false, Value.int IntKind.u32 (0 : Int), Value.int IntKind.u8 (0 : Int), Value.int IntKind.u16 (0 : Int), Value.int IntKind.u16 (0 : Int), Value.int IntKind.u16 (0 : Int), Value.int IntKind.u16 (0 : Int), Value.int IntKind.u32 (0 : Int), Value.bool false, Value.int IntKind.u32 (0 : Int), Value.int IntKind.u8 (0 : Int), Value.int IntKind.u16 (0 : Int), Value.int IntKind.u16 (0 : Int), Value.int IntKind.u16 (0 : Int), Value.int IntKind.u16 (0 : Int), Value.int IntKind.u32 (0 : Int), Value.bool false, Value.int IntKind.u32 (0 : Int), Value.int IntKind.u8 (0 : Int), Value.int IntKind.u16 (0 : Int), Value.int IntKind.u16 (0 : Int), Value.int IntKind.u16 (0 : Int), Value.int IntKind.u16 (0 : Int), Value.int IntKind.u32 (0 : Int), Value.bool false, Value.int IntKind.u32 (0 : Int), Value.int IntKind.u8 (0 : Int), Value.int IntKind.u16 (0 : Int), Value.int IntKind.u16 (0 : Int), Value.int IntKind.u16 (0 : Int), Value.int IntKind.u16 (0 : Int), Value.int IntKind.u32 (0 : Int), Value.bool false, Value.int IntKind.u32 (4 : Int), Value.int IntKind.u8 (0 : Int), Value.int IntKind.u16 (0 : Int), Value.int IntKind.u16 (64 : Int), Value.int IntKind.u16 (5 : Int), Value.int IntKind.u16 (0 : Int), Value.int IntKind.u32 (0 : Int), Value.bool true] }, Value.int IntKind.i64 (0 : Int)] }, { n := 131, h := [(65, { rw := true, op := some (65, 1), cells := [Value.int IntKind.u64 (0 : Int), Value.int IntKind.u64 (0 : Int), Value.int IntKind.u64 (0 : Int), Value.int IntKind.u64 (0 : Int)], it := none : Sy.Blk }), (67, { rw := true, op := none, cells := [Value.pointer (some { block := 66, off := 0 }), Value.slice (some { block := 64, off := 0 }) 4096 9223372036854775872], it := none : Sy.Blk }), (66, { rw := true, op := none, cells := [Value.int IntKind.i64 (256 : Int), Value.slice (some { block := 65, off := 0 }) 4 9223372036854775873], it := none : Sy.Blk }), (64, { rw := true, op := some (64, 1), cells := setAt (0 + (IntKind.u32.wrap ((256 : Int) + IntKind.u32.wrap m)).toNat * 1) (List.take (Nat.min 2 (4096 - (IntKind.u32.wrap ((256 : Int) + IntKind.u32.wrap m)).toNat) * 1) [Value.int IntKind.u8 (↑(UInt8.ofNat (v.toNat % 256)).toNat : Int), Value.int IntKind.u8 (↑(UInt8.ofNat (v.toNat / 256 % 256)).toNat : Int)]) (u8s zs), it := none : Sy.Blk }), (0, { rw := false, op := none, cells := rowsC, it := none : Sy.Blk })], lo := [(65, 4), (129, 4096 - (IntKind.u32.wrap ((256 : Int) + IntKind.u32.wrap m)).toNat), (128, 2), (65, 4), (64, 4096)], esc := 0, T := [], k := 251, O := (((bif hasN (0 + (IntKind.u32.wrap ((256 : Int) + IntKind.u32.wrap m)).toNat * 1 + lenT (List.take (Nat.min 2 (4096 - (IntKind.u32.wrap ((256 : Int) + IntKind.u32.wrap m)).toNat) * 1) [Value.int IntKind.u8 (↑(UInt8.ofNat (v.toNat % 256)).toNat : Int), Value.int IntKind.u8 (↑(UInt8.ofNat (v.toNat / 256 % 256)).toNat : Int)])) (u8s zs) && oneC (List.take (Nat.min 2 (4096 - (IntKind.u32.wrap ((256 : Int) + IntKind.u32.wrap m)).toNat) * 1) [Value.int IntKind.u8 (↑(UInt8.ofNat (v.toNat % 256)).toNat : Int), Value.int IntKind.u8 (↑(UInt8.ofNat (v.toNat / 256 % 256)).toNat : Int)]) && (List.take (Nat.min 2 (4096 - (IntKind.u32.wrap ((256 : Int) + IntKind.u32.wrap m)).toNat) * 1) [Value.int IntKind.u8 (↑(UInt8.ofNat (v.toNat % 256)).toNat : Int), Value.int IntKind.u8 (↑(UInt8.ofNat (v.toNat / 256 % 256)).toNat : Int)]).all flat0 then bif (lenT (List.take (Nat.min 2 (4096 - (IntKind.u32.wrap ((256 : Int) + IntKind.u32.wrap m)).toNat) * 1) [Value.int IntKind.u8 (↑(UInt8.ofNat (v.toNat % 256)).toNat : Int), Value.int IntKind.u8 (↑(UInt8.ofNat (v.toNat / 256 % 256)).toNat : Int)])).beq (Nat.min 2 (4096 - (IntKind.u32.wrap ((256 : Int) + IntKind.u32.wrap m)).toNat) * 1) then bif hasN (0 + Nat.min 2 (4096 - (IntKind.u32.wrap ((256 : Int) + IntKind.u32.wrap m)).toNat) * 1) [Value.int IntKind.u8 (↑(UInt8.ofNat (v.toNat % 256)).toNat : Int), Value.int IntKind.u8 (↑(UInt8.ofNat (v.toNat / 256 % 256)).toNat : Int)] then (bif decide ((0 : Int) ≤ IntKind.u32.wrap ((256 : Int) + IntKind.u32.wrap m)) && decide (IntKind.u32.wrap ((256 : Int) + IntKind.u32.wrap m) ≤ (4096 : Int)) then ((((((((((((((((((((((((((((((((((((((((((((((((((((((((((((((((((((((((((((((((((((((((((((((((((((((((((((((((((((((((((((((((((((((((((((((((((((((((((((((((((((((((((((((((((((((((((((((((((((((((((((((((((((((((((((((((((((((((((((((((((((((((True ∧ true = true) ∧ true = true) ∧ true = true) ∧ true = true) ∧ true = true) ∧ true = true) ∧ true = true) ∧ true = true) ∧ true = true) ∧ true = true) ∧ true = true) ∧ true = true) ∧ false = false) ∧ false = false) ∧ false = false) ∧ false = false) ∧ false = false) ∧ false = false) ∧ false = false) ∧ true = true) ∧ true = true) ∧ true = true) ∧ true = true) ∧ true = true) ∧ true = true) ∧ true = true) ∧ true = true) ∧ true = true) ∧ true = true) ∧ true = true) ∧ true = true) ∧ true = true) ∧ false = false) ∧ false = false) ∧ false = false) ∧ false = false) ∧ false = false) ∧ false = false) ∧ false = false) ∧ true = true) ∧ true = true) ∧ true = true) ∧ true = true) ∧ true = true) ∧ true = true) ∧ true = true) ∧ true = true) ∧ true = true) ∧ true = true) ∧ true = true) ∧ true = true) ∧ true = true) ∧ true = true) ∧ true = true) ∧ true = true) ∧ true = true) ∧ true = true) ∧ false = false) ∧ false = false) ∧ false = false) ∧ false = false) ∧ false = false) ∧ false = false) ∧ false = false) ∧ false = false) ∧ false = false) ∧ false = false) ∧ true = true) ∧ true = true) ∧ true = true) ∧ false = false) ∧ false = false) ∧ false = false) ∧ false = false) ∧ false = false) ∧ false = false) ∧ false = false) ∧ false = false) ∧ false = false) ∧ false = false) ∧ false = false) ∧ false = false) ∧ false = false) ∧ true = true) ∧ true = true) ∧ false = false) ∧ true = true) ∧ false = false) ∧ false = false) ∧ false = false) ∧ false = false) ∧ false = false) ∧ false = false) ∧ false = false) ∧ false = false) ∧ false = false) ∧ false = false) ∧ false = false) ∧ false = false) ∧ false = false) ∧ true = true) ∧ true = true) ∧ false = false) ∧ false = false) ∧ false = false) ∧ true = true) ∧ true = true) ∧ false = false) ∧ false = false) ∧ false = false) ∧ false = false) ∧ false = false) ∧ false = false) ∧ decide (m < (-2048 : Int)) = false) ∧ decide (m < (-2048 : Int)) = false) ∧ decide (m < (-2048 : Int)) = false) ∧ decide (m < (-2048 : Int)) = false) ∧ decide (m < (-2048 : Int)) = false) ∧ decide (m < (-2048 : Int)) = false) ∧ false = false) ∧ false = false) ∧ decide (m ≥ (2048 : Int)) = false) ∧ decide (m ≥ (2048 : Int)) = false) ∧ decide (m ≥ (2048 : Int)) = false) ∧ decide (m ≥ (2048 : Int)) = false) ∧ decide (m ≥ (2048 : Int)) = false) ∧ false = false) ∧ false = false) ∧ false = false) ∧ false = false) ∧ false = false) ∧ false = false) ∧ false = false) ∧ false = false) ∧ false = false) ∧ false = false) ∧ false = false) ∧ false = false) ∧ false = false) ∧ false = false) ∧ false = false) ∧ false = false) ∧ false = false) ∧ false = false) ∧ false = false) ∧ false = false) ∧ true = true) ∧ true = true) ∧ false = false) ∧ false = false) ∧ false = false) ∧ true = true) ∧ true = true) ∧ false = false) ∧ false = false) ∧ false = false) ∧ true = true) ∧ true = true) ∧ true = true) ∧ false = false) ∧ false = false) ∧ false = false) ∧ false = false) ∧ false = false) ∧ false = false) ∧ false = false) ∧ false = false) ∧ false = false) ∧ false = false) ∧ false = false) ∧ false = false) ∧ true = true) ∧ true = true) ∧ true = true) ∧ true = true) ∧ true = true) ∧ true = true) ∧ true = true) ∧ true = true) ∧ true = true) ∧ true = true) ∧ true = true) ∧ true = true) ∧ true = true) ∧ false = false) ∧ false = false) ∧ false = false) ∧ false = false) ∧ false = false) ∧ decide (IntKind.u32.wrap ((256 : Int) + IntKind.u32.wrap m) ≥ (256 : Int)) = true) ∧ decide (IntKind.u32.wrap ((256 : Int) + IntKind.u32.wrap m) ≥ (256 : Int)) = true) ∧ decide (IntKind.u32.wrap ((256 : Int) + IntKind.u32.wrap m) ≥ (256 : Int)) = true) ∧ decide (IntKind.u32.wrap ((256 : Int) + IntKind.u32.wrap m) ≥ (256 : Int)) = true) ∧ decide (IntKind.u32.wrap ((256 : Int) + IntKind.u32.wrap m) ≥ (256 : Int)) = true) ∧ (!decide (IntKind.u64.wrap (IntKind.u64.wrap (IntKind.u32.wrap ((256 : Int) + IntKind.u32.wrap m)) + (2 : Int)) ≤ (320 : Int))) = false) ∧ (!decide (IntKind.u64.wrap (IntKind.u64.wrap (IntKind.u32.wrap ((256 : Int) + IntKind.u32.wrap m)) + (2 : Int)) ≤ (320 : Int))) = false) ∧ (!decide (IntKind.u64.wrap (IntKind.u64.wrap (IntKind.u32.wrap ((256 : Int) + IntKind.u32.wrap m)) + (2 : Int)) ≤ (320 : Int))) = false) ∧ (!decide (IntKind.u64.wrap (IntKind.u64.wrap (IntKind.u32.wrap ((256 : Int) + IntKind.u32.wrap m)) + (2 : Int)) ≤ (320 : Int))) = false) ∧ (!decide (IntKind.u64.wrap (IntKind.u64.wrap (IntKind.u32.wrap ((256 : Int) + IntKind.u32.wrap m)) + (2 : Int)) ≤ (320 : Int))) = false) ∧ (!decide (IntKind.u64.wrap (IntKind.u64.wrap (IntKind.u32.wrap ((256 : Int) + IntKind.u32.wrap m)) + (2 : Int)) ≤ (320 : Int))) = false) ∧ (!decide (IntKind.u64.wrap (IntKind.u64.wrap (IntKind.u32.wrap ((256 : Int) + IntKind.u32.wrap m)) + (2 : Int)) ≤ (320 : Int))) = false) ∧ false = false) ∧ false = false) ∧ false = false) ∧ false = false) ∧ false = false) ∧ false = false) ∧ false = false) ∧ (!decide (IntKind.u64.wrap (IntKind.u64.wrap (IntKind.u32.wrap ((256 : Int) + IntKind.u32.wrap m)) + (2 : Int)) ≤ (320 : Int))) = false) ∧ (!decide (IntKind.u64.wrap (IntKind.u64.wrap (IntKind.u32.wrap ((256 : Int) + IntKind.u32.wrap m)) + (2 : Int)) ≤ (320 : Int))) = false) ∧ (!decide (IntKind.u64.wrap (IntKind.u64.wrap (IntKind.u32.wrap ((256 : Int) + IntKind.u32.wrap m)) + (2 : Int)) ≤ (320 : Int))) = false) ∧ decide (IntKind.u64.wrap (IntKind.u64.wrap (IntKind.u32.wrap ((256 : Int) + IntKind.u32.wrap m)) + (2 : Int)) > (4096 : Int)) = false) ∧ ((IntKind.u32.wrap ((256 : Int) + IntKind.u32.wrap m)).tmod (2 : Int) != (0 : Int)) = false) ∧ false = false) ∧ false = false) ∧ false = false) ∧ true = true) ∧ true = true) ∧ (((2 : Int) = (1 : Int) ∨ (2 : Int) = (2 : Int) ∨ (2 : Int) = (4 : Int)) ∧ (0 : Int) ≤ v ∧ v < (4294967296 : Int)) ∧ (Value.string { data := #[] : ByteArray } = Value.string { data := { toList := [] : Array UInt8 } : ByteArray } ∧ Value.int IntKind.i64 (2 : Int) = Value.int IntKind.i64 (2 : Int) ∧ Value.int IntKind.u32 v = Value.int IntKind.u32 v ∧ True) ∧ True ∧ True) ∧ true = true) ∧ false = false) ∧ false = false) ∧ false = false) ∧ false = false) ∧ false = false) ∧ false = false) ∧ true = true) ∧ true = true) ∧ true = true) ∧ true = true) ∧ true = true) ∧ true = true) ∧ true = true) ∧ true = true) ∧ true = true) ∧ true = true) ∧ true = true) ∧ true = true) ∧ true = true) ∧ true = true) ∧ true = true) ∧ true = true) ∧ true = true) ∧ true = true) ∧ true = true) ∧ true = true) ∧ true = true) ∧ true = true) ∧ (!decide (IntKind.i64.wrap (IntKind.u32.wrap ((256 : Int) + IntKind.u32.wrap m)) ≤ (4094 : Int))) = false else False) ∧ (IntKind.u32.wrap ((256 : Int) + IntKind.u32.wrap m)).toNat.blt 4096 = true else False else False else False) ∧ true = true) ∧ (IntKind.i64.wrap (IntKind.i64.wrap ((IntKind.i64.wrap (IntKind.i64.wrap (IntKind.i64.wrap (IntKind.u32.wrap ((256 : Int) + IntKind.u32.wrap m)) + (2 : Int)) - (1 : Int))).tdiv (16 : Int)) + (1 : Int)) = IntKind.i64.wrap ((IntKind.i64.wrap (IntKind.u32.wrap ((256 : Int) + IntKind.u32.wrap m))).tdiv (16 : Int)) + (1 : Int) ∧ (16 : Int) ≤ IntKind.i64.wrap ((IntKind.i64.wrap (IntKind.u32.wrap ((256 : Int) + IntKind.u32.wrap m))).tdiv (16 : Int)) ∧ IntKind.i64.wrap ((IntKind.i64.wrap (IntKind.u32.wrap ((256 : Int) + IntKind.u32.wrap m))).tdiv (16 : Int)) < (20 : Int)) ∧ (Value.pointer (some { block := 66, off := 0 }) = Value.pointer (some { block := 66, off := 0 }) ∧ Value.int IntKind.i64 (IntKind.i64.wrap ((IntKind.i64.wrap (IntKind.u32.wrap ((256 : Int) + IntKind.u32.wrap m))).tdiv (16 : Int))) = Value.int IntKind.i64 (IntKind.i64.wrap ((IntKind.i64.wrap (IntKind.u32.wrap ((256 : Int) + IntKind.u32.wrap m))).tdiv (16 : Int))) ∧ Value.int IntKind.i64 (IntKind.i64.wrap (IntKind.i64.wrap ((IntKind.i64.wrap (IntKind.i64.wrap (IntKind.i64.wrap (IntKind.u32.wrap ((256 : Int) + IntKind.u32.wrap m)) + (2 : Int)) - (1 : Int))).tdiv (16 : Int)) + (1 : Int))) = Value.int IntKind.i64 (IntKind.i64.wrap (IntKind.i64.wrap ((IntKind.i64.wrap (IntKind.i64.wrap (IntKind.i64.wrap (IntKind.u32.wrap ((256 : Int) + IntKind.u32.wrap m)) + (2 : Int)) - (1 : Int))).tdiv (16 : Int)) + (1 : Int))) ∧ True) ∧ ((true = true ∧ true = true ∧ true = true ∧ true = true ∧ true = true ∧ True ∧ [Value.int IntKind.i64 (256 : Int), Value.slice (some { block := 65, off := 0 }) 4 9223372036854775873] = [Value.int IntKind.i64 (256 : Int), Value.slice (some { block := 65, off := 0 }) 4 9223372036854775873]) ∧ (true = true ∧ true = true ∧ true = true ∧ true = true ∧ true = true ∧ True ∧ [Value.int IntKind.u64 (0 : Int), Value.int IntKind.u64 (0 : Int), Value.int IntKind.u64 (0 : Int), Value.int IntKind.u64 (0 : Int)] = [Value.int IntKind.u64 (0 : Int), Value.int IntKind.u64 (0 : Int), Value.int IntKind.u64 (0 : Int), Value.int IntKind.u64 (0 : Int)]) ∧ True) ∧ (true = true ∧ 4 ≤ 4) ∧ True) ∧ false = false : St }) := by kernel_rfl
theorem mv_s2 (v : Int) (m : Int) (zs : List UInt8) : evF Tryz.prog (baseC 3 selMv) noLoop 100 40 13 [frM (0 : Int) v, inM (22 : Int) (5 : Int) m, aPtr] { n := 68, h := arZ true zs ++ rowsH, lo := arLo, esc := 0, T := [(0, true), (1, true), (2, true), (3, true), (4, true), (5, true), (6, true), (7, true), (8, true), (9, true), (10, true), (11, true), (12, false), (13, false), (14, false), (15, false), (16, false), (17, false), (18, false), (19, true), (20, true), (21, true), (22, true), (23, true), (24, true), (25, true), (26, true), (27, true), (28, true), (29, true), (30, true), (31, true), (32, false), (33, false), (34, false), (35, false), (36, false), (37, false), (38, false), (39, true), (40, true), (41, true), (42, true), (43, true), (44, true), (45, true), (46, true), (47, true), (48, true), (49, true), (50, true), (51, true), (52, true), (53, true), (54, true), (55, true), (56, true), (57, false), (58, false), (59, false), (60, false), (61, false), (62, false), (63, false), (64, false), (65, false), (66, false), (67, true), (68, true), (69, true), (70, false), (71, false), (72, false), (73, false), (74, false), (75, false), (76, false), (77, false), (78, false), (79, false), (80, false), (81, false), (82, false), (83, true), (84, true), (85, false), (86, true), (87, false), (88, false), (89, false), (90, false), (91, false), (92, false), (93, false), (94, false), (95, false), (96, false), (97, false), (98, false), (99, false), (100, true), (101, true), (102, false), (103, false), (104, false), (105, true), (106, true), (107, false), (108, false), (109, false), (110, false), (111, false), (112, false), (113, false), (114, false), (115, false), (116, false), (117, false), (118, false), (119, false), (120, false), (121, false), (122, false), (123, false), (124, false), (125, false), (126, false), (127, false), (128, false), (129, false), (130, false), (131, false), (132, false), (133, false), (134, false), (135, false), (136, false), (137, false), (138, false), (139, false), (140, false), (141, false), (142, false), (143, false), (144, false), (145, false), (146, false), (147, false), (148, true), (149, true), (150, false), (151, false), (152, false), (153, false), (154, false), (155, true), (156, true), (157, false), (158, false), (159, false), (160, false), (161, true), (162, true), (163, false), (164, false), (165, false), (166, false), (167, false), (168, false), (169, false), (170, false), (171, false), (172, false), (173, false), (174, false), (175, true), (176, true), (177, true), (178, true), (179, true), (180, true), (181, true), (182, true), (183, true), (184, true), (185, true), (186, true), (187, true), (188, false), (189, false), (190, false), (191, false), (192, false), (193, true), (194, true), (195, true), (196, true), (197, true), (198, false), (199, false), (200, false), (201, false), (202, false), (203, false), (204, false), (205, false), (206, false), (207, false), (208, false), (209, false), (210, false), (211, false), (212, false), (213, false), (214, false), (215, false), (216, false), (217, false), (218, false), (219, false), (220, false), (221, true), (222, true), (223, false), (224, false), (225, false), (226, false), (227, false), (228, false), (229, true), (230, true), (231, true), (232, true), (233, true), (234, true), (235, true), (236, true), (237, true), (238, true), (239, true), (240, true), (241, true), (242, true), (243, true), (244, true), (245, true), (246, true), (247, true), (248, true), (249, true), (250, true), (251, false), (252, true), (253, true), (254, false)], k := 0, O := True : St } = some (Value.tuple { toList := [Value.agg { toList := [Value.int IntKind.u32 (0 : Int), Value.int IntKind.u8 (0 : Int), Value.int IntKind.u16 (0 : Int), Value.int IntKind.u16 (0 : Int), Value.int IntKind.u16 (0 : Int), Value.int IntKind.u16 (0 : Int), Value.int IntKind.u32 (0 : Int), Value.bool false, Value.int IntKind.u32 (256 : Int), Value.int IntKind.u8 (0 : Int), Value.int IntKind.u16 (256 : Int), Value.int IntKind.u16 (320 : Int), Value.int IntKind.u16 (27 : Int), Value.int IntKind.u16 (0 : Int), Value.int IntKind.u32 (0 : Int), Value.bool true, Value.int IntKind.u32 (0 : Int), Value.int IntKind.u8 (0 : Int), Value.int IntKind.u16 (0 : Int), Value.int IntKind.u16 (0 : Int), Value.int IntKind.u16 (0 : Int), Value.int IntKind.u16 (0 : Int), Value.int IntKind.u32 (0 : Int), Value.bool false, Value.int IntKind.u32 (0 : Int), Value.int IntKind.u8 (0 : Int), Value.int IntKind.u16 (0 : Int), Value.int IntKind.u16 (0 : Int), Value.int IntKind.u16 (0 : Int), Value.int IntKind.u16 (0 : Int), Value.int IntKind.u32 (0 : Int), Value.bool false, Value.int IntKind.u32 (0 : Int), Value.int IntKind.u8 (0 : Int), Value.int IntKind.u16 (0 : Int), Value.int IntKind.u16 (0 : Int), Value.int IntKind.u16 (0 : Int), Value.int IntKind.u16 (0 : Int), Value.int IntKind.u32 (0 : Int), Value.bool false, Value.int IntKind.u32 v, Value.int IntKind.u8 (0 : Int), Value.int IntKind.u16 (0 : Int), Value.int IntKind.u16 (0 : Int), Value.int IntKind.u16 (0 : Int), Value.int IntKind.u16 (0 : Int), Value.int IntKind.u32 (0 : Int), Value.bool false, Value.int IntKind.u32 (0 : Int), Value.int IntKind.u8 (0 : Int), Value.int IntKind.u16 (0 : Int), Value.int IntKind.u16 (0 : Int), Value.int IntKind.u16 (0 : Int), Value.int IntKind.u16 (0 : Int), Value.int IntKind.u32 (0 : Int), Value.bool false, Value.int IntKind.u32 (0 : Int), Value.int IntKind.u8 (0 : Int), Value.int IntKind.u16 (0 : Int), Value.int IntKind.u16 (0 : Int), Value.int IntKind.u16 (0 : Int), Value.int IntKind.u16 (0 : Int), Value.int IntKind.u32 (0 : Int), Value.bool false, Value.int IntKind.u32 (0 : Int), Value.int IntKind.u8 (0 : Int), Value.int IntKind.u16 (0 : Int), Value.int IntKind.u16 (0 : Int), Value.int IntKind.u16 (0 : Int), Value.int IntKind.u16 (0 : Int), Value.int IntKind.u32 (0 : Int), Value.bool false, Value.int IntKind.u32 (0 : Int), Value.int IntKind.u8 (0 : Int), Value.int IntKind.u16 (0 : Int), Value.int IntKind.u16 (0 : Int), Value.int IntKind.u16 (0 : Int), Value.int IntKind.u16 (0 : Int), Value.int IntKind.u32 (0 : Int), Value.bool false, Value.int IntKind.u32 (0 : Int), Value.int IntKind.u8 (0 : Int), Value.int IntKind.u16 (0 : Int), Value.int IntKind.u16 (0 : Int), Value.int IntKind.u16 (0 : Int), Value.int IntKind.u16 (0 : Int), Value.int IntKind.u32 (0 : Int), Value.bool false, Value.int IntKind.u32 (0 : Int), Value.int IntKind.u8 (0 : Int), Value.int IntKind.u16 (0 : Int), Value.int IntKind.u16 (0 : Int), Value.int IntKind.u16 (0 : Int), Value.int IntKind.u16 (0 : Int), Value.int IntKind.u32 (0 : Int), Value.bool false, Value.int IntKind.u32 (0 : Int), Value.int IntKind.u8 (0 : Int), Value.int IntKind.u16 (0 : Int), Value.int IntKind.u16 (0 : Int), Value.int IntKind.u16 (0 : Int), Value.int IntKind.u16 (0 : Int), Value.int IntKind.u32 (0 : Int), Value.bool false, Value.int IntKind.u32 (0 : Int), Value.int IntKind.u8 (0 : Int), Value.int IntKind.u16 (0 : Int), Value.int IntKind.u16 (0 : Int), Value.int IntKind.u16 (0 : Int), Value.int IntKind.u16 (0 : Int), Value.int IntKind.u32 (0 : Int), Value.bool false, Value.int IntKind.u32 (0 : Int), Value.int IntKind.u8 (0 : Int), Value.int IntKind.u16 (0 : Int), Value.int IntKind.u16 (0 : Int), Value.int IntKind.u16 (0 : Int), Value.int IntKind.u16 (0 : Int), Value.int IntKind.u32 (0 : Int), Value.bool false, Value.int IntKind.u32 (0 : Int), Value.int IntKind.u8 (0 : Int), Value.int IntKind.u16 (0 : Int), Value.int IntKind.u16 (0 : Int), Value.int IntKind.u16 (0 : Int), Value.int IntKind.u16 (0 : Int), Value.int IntKind.u32 (0 : Int), Value.bool false, Value.int IntKind.u32 (4 : Int), Value.int IntKind.u8 (0 : Int), Value.int IntKind.u16 (0 : Int), Value.int IntKind.u16 (64 : Int), Value.int IntKind.u16 (5 : Int), Value.int IntKind.u16 (0 : Int), Value.int IntKind.u32 (0 : Int), Value.bool true] }, Value.int IntKind.i64 (0 : Int)] }, { n := 131, h := [(65, { rw := true, op := some (65, 1), cells := [Value.int IntKind.u64 (0 : Int), Value.int IntKind.u64 (0 : Int), Value.int IntKind.u64 (0 : Int), Value.int IntKind.u64 (0 : Int)], it := none : Sy.Blk }), (67, { rw := true, op := none, cells := [Value.pointer (some { block := 66, off := 0 }), Value.slice (some { block := 64, off := 0 }) 4096 9223372036854775872], it := none : Sy.Blk }), (66, { rw := true, op := none, cells := [Value.int IntKind.i64 (256 : Int), Value.slice (some { block := 65, off := 0 }) 4 9223372036854775873], it := none : Sy.Blk }), (64, { rw := true, op := some (64, 1), cells := setAt (0 + (IntKind.u32.wrap ((256 : Int) + IntKind.u32.wrap m)).toNat * 1) (List.take (Nat.min 4 (4096 - (IntKind.u32.wrap ((256 : Int) + IntKind.u32.wrap m)).toNat) * 1) [Value.int IntKind.u8 (↑(UInt8.ofNat (v.toNat % 256)).toNat : Int), Value.int IntKind.u8 (↑(UInt8.ofNat (v.toNat / 256 % 256)).toNat : Int), Value.int IntKind.u8 (↑(UInt8.ofNat (v.toNat / 256 / 256 % 256)).toNat : Int), Value.int IntKind.u8 (↑(UInt8.ofNat (v.toNat / 256 / 256 / 256 % 256)).toNat : Int)]) (u8s zs), it := none : Sy.Blk }), (0, { rw := false, op := none, cells := rowsC, it := none : Sy.Blk })], lo := [(65, 4), (129, 4096 - (IntKind.u32.wrap ((256 : Int) + IntKind.u32.wrap m)).toNat), (128, 4), (65, 4), (64, 4096)], esc := 0, T := [], k := 255, O := (((bif hasN (0 + (IntKind.u32.wrap ((256 : Int) + IntKind.u32.wrap m)).toNat * 1 + lenT (List.take (Nat.min 4 (4096 - (IntKind.u32.wrap ((256 : Int) + IntKind.u32.wrap m)).toNat) * 1) [Value.int IntKind.u8 (↑(UInt8.ofNat (v.toNat % 256)).toNat : Int), Value.int IntKind.u8 (↑(UInt8.ofNat (v.toNat / 256 % 256)).toNat : Int), Value.int IntKind.u8 (↑(UInt8.ofNat (v.toNat / 256 / 256 % 256)).toNat : Int), Value.int IntKind.u8 (↑(UInt8.ofNat (v.toNat / 256 / 256 / 256 % 256)).toNat : Int)])) (u8s zs) && oneC (List.take (Nat.min 4 (4096 - (IntKind.u32.wrap ((256 : Int) + IntKind.u32.wrap m)).toNat) * 1) [Value.int IntKind.u8 (↑(UInt8.ofNat (v.toNat % 256)).toNat : Int), Value.int IntKind.u8 (↑(UInt8.ofNat (v.toNat / 256 % 256)).toNat : Int), Value.int IntKind.u8 (↑(UInt8.ofNat (v.toNat / 256 / 256 % 256)).toNat : Int), Value.int IntKind.u8 (↑(UInt8.ofNat (v.toNat / 256 / 256 / 256 % 256)).toNat : Int)]) && (List.take (Nat.min 4 (4096 - (IntKind.u32.wrap ((256 : Int) + IntKind.u32.wrap m)).toNat) * 1) [Value.int IntKind.u8 (↑(UInt8.ofNat (v.toNat % 256)).toNat : Int), Value.int IntKind.u8 (↑(UInt8.ofNat (v.toNat / 256 % 256)).toNat : Int), Value.int IntKind.u8 (↑(UInt8.ofNat (v.toNat / 256 / 256 % 256)).toNat : Int), Value.int IntKind.u8 (↑(UInt8.ofNat (v.toNat / 256 / 256 / 256 % 256)).toNat : Int)]).all flat0 then bif (lenT (List.take (Nat.min 4 (4096 - (IntKind.u32.wrap ((256 : Int) + IntKind.u32.wrap m)).toNat) * 1) [Value.int IntKind.u8 (↑(UInt8.ofNat (v.toNat % 256)).toNat : Int), Value.int IntKind.u8 (↑(UInt8.ofNat (v.toNat / 256 % 256)).toNat : Int), Value.int IntKind.u8 (↑(UInt8.ofNat (v.toNat / 256 / 256 % 256)).toNat : Int), Value.int IntKind.u8 (↑(UInt8.ofNat (v.toNat / 256 / 256 / 256 % 256)).toNat : Int)])).beq (Nat.min 4 (4096 - (IntKind.u32.wrap ((256 : Int) + IntKind.u32.wrap m)).toNat) * 1) then bif hasN (0 + Nat.min 4 (4096 - (IntKind.u32.wrap ((256 : Int) + IntKind.u32.wrap m)).toNat) * 1) [Value.int IntKind.u8 (↑(UInt8.ofNat (v.toNat % 256)).toNat : Int), Value.int IntKind.u8 (↑(UInt8.ofNat (v.toNat / 256 % 256)).toNat : Int), Value.int IntKind.u8 (↑(UInt8.ofNat (v.toNat / 256 / 256 % 256)).toNat : Int), Value.int IntKind.u8 (↑(UInt8.ofNat (v.toNat / 256 / 256 / 256 % 256)).toNat : Int)] then (bif decide ((0 : Int) ≤ IntKind.u32.wrap ((256 : Int) + IntKind.u32.wrap m)) && decide (IntKind.u32.wrap ((256 : Int) + IntKind.u32.wrap m) ≤ (4096 : Int)) then ((((((((((((((((((((((((((((((((((((((((((((((((((((((((((((((((((((((((((((((((((((((((((((((((((((((((((((((((((((((((((((((((((((((((((((((((((((((((((((((((((((((((((((((((((((((((((((((((((((((((((((((((((((((((((((((((((((((((((((((((((((((((((((True ∧ true = true) ∧ true = true) ∧ true = true) ∧ true = true) ∧ true = true) ∧ true = true) ∧ true = true) ∧ true = true) ∧ true = true) ∧ true = true) ∧ true = true) ∧ true = true) ∧ false = false) ∧ false = false) ∧ false = false) ∧ false = false) ∧ false = false) ∧ false = false) ∧ false = false) ∧ true = true) ∧ true = true) ∧ true = true) ∧ true = true) ∧ true = true) ∧ true = true) ∧ true = true) ∧ true = true) ∧ true = true) ∧ true = true) ∧ true = true) ∧ true = true) ∧ true = true) ∧ false = false) ∧ false = false) ∧ false = false) ∧ false = false) ∧ false = false) ∧ false = false) ∧ false = false) ∧ true = true) ∧ true = true) ∧ true = true) ∧ true = true) ∧ true = true) ∧ true = true) ∧ true = true) ∧ true = true) ∧ true = true) ∧ true = true) ∧ true = true) ∧ true = true) ∧ true = true) ∧ true = true) ∧ true = true) ∧ true = true) ∧ true = true) ∧ true = true) ∧ false = false) ∧ false = false) ∧ false = false) ∧ false = false) ∧ false = false) ∧ false = false) ∧ false = false) ∧ false = false) ∧ false = false) ∧ false = false) ∧ true = true) ∧ true = true) ∧ true = true) ∧ false = false) ∧ false = false) ∧ false = false) ∧ false = false) ∧ false = false) ∧ false = false) ∧ false = false) ∧ false = false) ∧ false = false) ∧ false = false) ∧ false = false) ∧ false = false) ∧ false = false) ∧ true = true) ∧ true = true) ∧ false = false) ∧ true = true) ∧ false = false) ∧ false = false) ∧ false = false) ∧ false = false) ∧ false = false) ∧ false = false) ∧ false = false) ∧ false = false) ∧ false = false) ∧ false = false) ∧ false = false) ∧ false = false) ∧ false = false) ∧ true = true) ∧ true = true) ∧ false = false) ∧ false = false) ∧ false = false) ∧ true = true) ∧ true = true) ∧ false = false) ∧ false = false) ∧ false = false) ∧ false = false) ∧ false = false) ∧ false = false) ∧ decide (m < (-2048 : Int)) = false) ∧ decide (m < (-2048 : Int)) = false) ∧ decide (m < (-2048 : Int)) = false) ∧ decide (m < (-2048 : Int)) = false) ∧ decide (m < (-2048 : Int)) = false) ∧ decide (m < (-2048 : Int)) = false) ∧ false = false) ∧ false = false) ∧ decide (m ≥ (2048 : Int)) = false) ∧ decide (m ≥ (2048 : Int)) = false) ∧ decide (m ≥ (2048 : Int)) = false) ∧ decide (m ≥ (2048 : Int)) = false) ∧ decide (m ≥ (2048 : Int)) = false) ∧ false = false) ∧ false = false) ∧ false = false) ∧ false = false) ∧ false = false) ∧ false = false) ∧ false = false) ∧ false = false) ∧ false = false) ∧ false = false) ∧ false = false) ∧ false = false) ∧ false = false) ∧ false = false) ∧ false = false) ∧ false = false) ∧ false = false) ∧ false = false) ∧ false = false) ∧ false = false) ∧ false = false) ∧ false = false) ∧ true = true) ∧ true = true) ∧ false = false) ∧ false = false) ∧ false = false) ∧ false = false) ∧ false = false) ∧ true = true) ∧ true = true) ∧ false = false) ∧ false = false) ∧ false = false) ∧ false = false) ∧ true = true) ∧ true = true) ∧ false = false) ∧ false = false) ∧ false = false) ∧ false = false) ∧ false = false) ∧ false = false) ∧ false = false) ∧ false = false) ∧ false = false) ∧ false = false) ∧ false = false) ∧ false = false) ∧ true = true) ∧ true = true) ∧ true = true) ∧ true = true) ∧ true = true) ∧ true = true) ∧ true = true) ∧ true = true) ∧ true = true) ∧ true = true) ∧ true = true) ∧ true = true) ∧ true = true) ∧ false = false) ∧ false = false) ∧ false = false) ∧ false = false) ∧ false = false) ∧ decide (IntKind.u32.wrap ((256 : Int) + IntKind.u32.wrap m) ≥ (256 : Int)) = true) ∧ decide (IntKind.u32.wrap ((256 : Int) + IntKind.u32.wrap m) ≥ (256 : Int)) = true) ∧ decide (IntKind.u32.wrap ((256 : Int) + IntKind.u32.wrap m) ≥ (256 : Int)) = true) ∧ decide (IntKind.u32.wrap ((256 : Int) + IntKind.u32.wrap m) ≥ (256 : Int)) = true) ∧ decide (IntKind.u32.wrap ((256 : Int) + IntKind.u32.wrap m) ≥ (256 : Int)) = true) ∧ (!decide (IntKind.u64.wrap (IntKind.u64.wrap (IntKind.u32.wrap ((256 : Int) + IntKind.u32.wrap m)) + (4 : Int)) ≤ (320 : Int))) = false) ∧ (!decide (IntKind.u64.wrap (IntKind.u64.wrap (IntKind.u32.wrap ((256 : Int) + IntKind.u32.wrap m)) + (4 : Int)) ≤ (320 : Int))) = false) ∧ (!decide (IntKind.u64.wrap (IntKind.u64.wrap (IntKind.u32.wrap ((256 : Int) + IntKind.u32.wrap m)) + (4 : Int)) ≤ (320 : Int))) = false) ∧ (!decide (IntKind.u64.wrap (IntKind.u64.wrap (IntKind.u32.wrap ((256 : Int) + IntKind.u32.wrap m)) + (4 : Int)) ≤ (320 : Int))) = false) ∧ (!decide (IntKind.u64.wrap (IntKind.u64.wrap (IntKind.u32.wrap ((256 : Int) + IntKind.u32.wrap m)) + (4 : Int)) ≤ (320 : Int))) = false) ∧ (!decide (IntKind.u64.wrap (IntKind.u64.wrap (IntKind.u32.wrap ((256 : Int) + IntKind.u32.wrap m)) + (4 : Int)) ≤ (320 : Int))) = false) ∧ (!decide (IntKind.u64.wrap (IntKind.u64.wrap (IntKind.u32.wrap ((256 : Int) + IntKind.u32.wrap m)) + (4 : Int)) ≤ (320 : Int))) = false) ∧ false = false) ∧ false = false) ∧ false = false) ∧ false = false) ∧ false = false) ∧ false = false) ∧ false = false) ∧ (!decide (IntKind.u64.wrap (IntKind.u64.wrap (IntKind.u32.wrap ((256 : Int) + IntKind.u32.wrap m)) + (4 : Int)) ≤ (320 : Int))) = false) ∧ (!decide (IntKind.u64.wrap (IntKind.u64.wrap (IntKind.u32.wrap ((256 : Int) + IntKind.u32.wrap m)) + (4 : Int)) ≤ (320 : Int))) = false) ∧ (!decide (IntKind.u64.wrap (IntKind.u64.wrap (IntKind.u32.wrap ((256 : Int) + IntKind.u32.wrap m)) + (4 : Int)) ≤ (320 : Int))) = false) ∧ decide (IntKind.u64.wrap (IntKind.u64.wrap (IntKind.u32.wrap ((256 : Int) + IntKind.u32.wrap m)) + (4 : Int)) > (4096 : Int)) = false) ∧ ((IntKind.u32.wrap ((256 : Int) + IntKind.u32.wrap m)).tmod (4 : Int) != (0 : Int)) = false) ∧ false = false) ∧ false = false) ∧ false = false) ∧ false = false) ∧ true = true) ∧ (((4 : Int) = (1 : Int) ∨ (4 : Int) = (2 : Int) ∨ (4 : Int) = (4 : Int)) ∧ (0 : Int) ≤ v ∧ v < (4294967296 : Int)) ∧ (Value.string { data := #[] : ByteArray } = Value.string { data := { toList := [] : Array UInt8 } : ByteArray } ∧ Value.int IntKind.i64 (4 : Int) = Value.int IntKind.i64 (4 : Int) ∧ Value.int IntKind.u32 v = Value.int IntKind.u32 v ∧ True) ∧ True ∧ True) ∧ true = true) ∧ false = false) ∧ false = false) ∧ false = false) ∧ false = false) ∧ false = false) ∧ false = false) ∧ true = true) ∧ true = true) ∧ true = true) ∧ true = true) ∧ true = true) ∧ true = true) ∧ true = true) ∧ true = true) ∧ true = true) ∧ true = true) ∧ true = true) ∧ true = true) ∧ true = true) ∧ true = true) ∧ true = true) ∧ true = true) ∧ true = true) ∧ true = true) ∧ true = true) ∧ true = true) ∧ true = true) ∧ true = true) ∧ (!decide (IntKind.i64.wrap (IntKind.u32.wrap ((256 : Int) + IntKind.u32.wrap m)) ≤ (4092 : Int))) = false else False) ∧ (IntKind.u32.wrap ((256 : Int) + IntKind.u32.wrap m)).toNat.blt 4096 = true else False else False else False) ∧ true = true) ∧ (IntKind.i64.wrap (IntKind.i64.wrap ((IntKind.i64.wrap (IntKind.i64.wrap (IntKind.i64.wrap (IntKind.u32.wrap ((256 : Int) + IntKind.u32.wrap m)) + (4 : Int)) - (1 : Int))).tdiv (16 : Int)) + (1 : Int)) = IntKind.i64.wrap ((IntKind.i64.wrap (IntKind.u32.wrap ((256 : Int) + IntKind.u32.wrap m))).tdiv (16 : Int)) + (1 : Int) ∧ (16 : Int) ≤ IntKind.i64.wrap ((IntKind.i64.wrap (IntKind.u32.wrap ((256 : Int) + IntKind.u32.wrap m))).tdiv (16 : Int)) ∧ IntKind.i64.wrap ((IntKind.i64.wrap (IntKind.u32.wrap ((256 : Int) + IntKind.u32.wrap m))).tdiv (16 : Int)) < (20 : Int)) ∧ (Value.pointer (some { block := 66, off := 0 }) = Value.pointer (some { block := 66, off := 0 }) ∧ Value.int IntKind.i64 (IntKind.i64.wrap ((IntKind.i64.wrap (IntKind.u32.wrap ((256 : Int) + IntKind.u32.wrap m))).tdiv (16 : Int))) = Value.int IntKind.i64 (IntKind.i64.wrap ((IntKind.i64.wrap (IntKind.u32.wrap ((256 : Int) + IntKind.u32.wrap m))).tdiv (16 : Int))) ∧ Value.int IntKind.i64 (IntKind.i64.wrap (IntKind.i64.wrap ((IntKind.i64.wrap (IntKind.i64.wrap (IntKind.i64.wrap (IntKind.u32.wrap ((256 : Int) + IntKind.u32.wrap m)) + (4 : Int)) - (1 : Int))).tdiv (16 : Int)) + (1 : Int))) = Value.int IntKind.i64 (IntKind.i64.wrap (IntKind.i64.wrap ((IntKind.i64.wrap (IntKind.i64.wrap (IntKind.i64.wrap (IntKind.u32.wrap ((256 : Int) + IntKind.u32.wrap m)) + (4 : Int)) - (1 : Int))).tdiv (16 : Int)) + (1 : Int))) ∧ True) ∧ ((true = true ∧ true = true ∧ true = true ∧ true = true ∧ true = true ∧ True ∧ [Value.int IntKind.i64 (256 : Int), Value.slice (some { block := 65, off := 0 }) 4 9223372036854775873] = [Value.int IntKind.i64 (256 : Int), Value.slice (some { block := 65, off := 0 }) 4 9223372036854775873]) ∧ (true = true ∧ true = true ∧ true = true ∧ true = true ∧ true = true ∧ True ∧ [Value.int IntKind.u64 (0 : Int), Value.int IntKind.u64 (0 : Int), Value.int IntKind.u64 (0 : Int), Value.int IntKind.u64 (0 : Int)] = [Value.int IntKind.u64 (0 : Int), Value.int IntKind.u64 (0 : Int), Value.int IntKind.u64 (0 : Int), Value.int IntKind.u64 (0 : Int)]) ∧ True) ∧ (true = true ∧ 4 ≤ 4) ∧ True) ∧ false = false : St }) := by kernel_rfl
theorem mv_l0 (v : Int) (m : Int) (zs : List UInt8) : obs (evF Tryz.prog (baseC 3 selMv) noLoop 100 40 13 [frM (4 : Int) v, inM (17 : Int) (6 : Int) m, aPtr] { n := 68, h := arZ false zs ++ rowsH, lo := arLo, esc := 0, T := [(0, true), (1, true), (2, true), (3, true), (4, true), (5, true), (6, true), (7, true), (8, true), (9, true), (10, true), (11, true), (12, false), (13, false), (14, false), (15, false), (16, false), (17, false), (18, false), (19, true), (20, true), (21, true), (22, true), (23, true), (24, true), (25, true), (26, true), (27, true), (28, true), (29, true), (30, true), (31, true), (32, false), (33, false), (34, false), (35, false), (36, false), (37, false), (38, false), (39, true), (40, true), (41, true), (42, true), (43, true), (44, true), (45, true), (46, true), (47, true), (48, true), (49, true), (50, true), (51, true), (52, true), (53, true), (54, true), (55, true), (56, true), (57, false), (58, false), (59, false), (60, false), (61, false), (62, false), (63, false), (64, false), (65, false), (66, false), (67, true), (68, true), (69, true), (70, false), (71, false), (72, false), (73, false), (74, false), (75, false), (76, false), (77, false), (78, false), (79, false), (80, false), (81, false), (82, false), (83, true), (84, true), (85, false), (86, true), (87, false), (88, false), (89, false), (90, false), (91, false), (92, false), (93, false), (94, false), (95, false), (96, false), (97, false), (98, false), (99, false), (100, true), (101, true), (102, false), (103, false), (104, false), (105, true), (106, true), (107, false), (108, false), (109, false), (110, false), (111, false), (112, false), (113, false), (114, false), (115, false), (116, false), (117, false), (118, false), (119, false), (120, false), (121, false), (122, false), (123, false), (124, false), (125, false), (126, false), (127, false), (128, false), (129, false), (130, false), (131, false), (132, false), (133, false), (134, false), (135, false), (136, false), (137, false), (138, false), (139, false), (140, false), (141, false), (142, false), (143, true), (144, true), (145, true), (146, true), (147, true), (148, true), (149, false), (150, false), (151, false), (152, false), (153, false), (154, false), (155, false), (156, false), (157, false), (158, false), (159, false), (160, false), (161, false), (162, false), (163, false), (164, false), (165, true), (166, true), (167, true), (168, true), (169, true), (170, true), (171, true), (172, true), (173, true), (174, true), (175, true), (176, true), (177, true), (178, false), (179, false), (180, false), (181, false), (182, false), (183, true), (184, true), (185, true), (186, true), (187, true), (188, false), (189, false), (190, false), (191, false), (192, false), (193, false), (194, false), (195, false), (196, false), (197, false), (198, false), (199, false), (200, false), (201, false), (202, false), (203, false), (204, false), (205, false), (206, false), (207, false), (208, false), (209, false), (210, false), (211, false), (212, false), (213, false), (214, false), (215, false), (216, false), (217, false), (218, false), (219, true), (220, true), (221, true), (222, true), (223, true), (224, true), (225, true), (226, true), (227, true), (228, true), (229, true), (230, true), (231, true), (232, true), (233, true), (234, true), (235, true), (236, true), (237, true), (238, true), (239, true), (240, true), (241, false), (242, true), (243, true), (244, true), (245, true), (246, true), (247, true), (248, false), (249, false), (250, false), (251, false), (252, false), (253, false), (254, false), (255, false), (256, false), (257, false), (258, false), (259, true), (260, false), (261, false), (262, false)], k := 0, O := True : St }) = some (Value.tuple { toList := [Value.agg { toList := [Value.int IntKind.u32 (0 : Int), Value.int IntKind.u8 (0 : Int), Value.int IntKind.u16 (0 : Int), Value.int IntKind.u16 (0 : Int), Value.int IntKind.u16 (0 : Int), Value.int IntKind.u16 (0 : Int), Value.int IntKind.u32 (0 : Int), Value.bool false, Value.int IntKind.u32 (256 : Int), Value.int IntKind.u8 (0 : Int), Value.int IntKind.u16 (256 : Int), Value.int IntKind.u16 (320 : Int), Value.int IntKind.u16 (27 : Int), Value.int IntKind.u16 (0 : Int), Value.int IntKind.u32 (0 : Int), Value.bool true, Value.int IntKind.u32 (0 : Int), Value.int IntKind.u8 (0 : Int), Value.int IntKind.u16 (0 : Int), Value.int IntKind.u16 (0 : Int), Value.int IntKind.u16 (0 : Int), Value.int IntKind.u16 (0 : Int), Value.int IntKind.u32 (0 : Int), Value.bool false, Value.int IntKind.u32 (0 : Int), Value.int IntKind.u8 (0 : Int), Value.int IntKind.u16 (0 : Int), Value.int IntKind.u16 (0 : Int), Value.int IntKind.u16 (0 : Int), Value.int IntKind.u16 (0 : Int), Value.int IntKind.u32 (0 : Int), Value.bool false, Value.int IntKind.u32 (0 : Int), Value.int IntKind.u8 (0 : Int), Value.int IntKind.u16 (0 : Int), Value.int IntKind.u16 (0 : Int), Value.int IntKind.u16 (0 : Int), Value.int IntKind.u16 (0 : Int), Value.int IntKind.u32 (0 : Int), Value.bool false, Value.int IntKind.u32 v, Value.int IntKind.u8 (0 : Int), Value.int IntKind.u16 (0 : Int), Value.int IntKind.u16 (0 : Int), Value.int IntKind.u16 (0 : Int), Value.int IntKind.u16 (0 : Int), Value.int IntKind.u32 (0 : Int), Value.bool false, Value.int IntKind.u32 (bits BinOp.or IntKind.u32 (0 : Int) (IntKind.u32.wrap (intOf' (getD' undef (u8s zs) (0 + (IntKind.i64.wrap (IntKind.u32.wrap ((256 : Int) + IntKind.u32.wrap m))).toNat * 1 + 0))))), Value.int IntKind.u8 (0 : Int), Value.int IntKind.u16 (0 : Int), Value.int IntKind.u16 (0 : Int), Value.int IntKind.u16 (0 : Int), Value.int IntKind.u16 (0 : Int), Value.int IntKind.u32 (0 : Int), Value.bool false, Value.int IntKind.u32 (0 : Int), Value.int IntKind.u8 (0 : Int), Value.int IntKind.u16 (0 : Int), Value.int IntKind.u16 (0 : Int), Value.int IntKind.u16 (0 : Int), Value.int IntKind.u16 (0 : Int), Value.int IntKind.u32 (0 : Int), Value.bool false, Value.int IntKind.u32 (0 : Int), Value.int IntKind.u8 (0 : Int), Value.int IntKind.u16 (0 : Int), Value.int IntKind.u16 (0 : Int), Value.int IntKind.u16 (0 : Int), Value.int IntKind.u16 (0 : Int), Value.int IntKind.u32 (0 : Int), Value.bool false, Value.int IntKind.u32 (0 : Int), Value.int IntKind.u8 (0 : Int), Value.int IntKind.u16 (0 : Int), Value.int IntKind.u16 (0 : Int), Value.int IntKind.u16 (0 : Int), Value.int IntKind.u16 (0 : Int), Value.int IntKind.u32 (0 : Int), Value.bool false, Value.int IntKind.u32 (0 : Int), Value.int IntKind.u8 (0 : Int), Value.int IntKind.u16 (0 : Int), Value.int IntKind.u16 (0 : Int), Value.int IntKind.u16 (0 : Int), Value.int IntKind.u16 (0 : Int), Value.int IntKind.u32 (0 : Int), Value.bool false, Value.int IntKind.u32 (0 : Int), Value.int IntKind.u8 (0 : Int), Value.int IntKind.u16 (0 : Int), Value.int IntKind.u16 (0 : Int), Value.int IntKind.u16 (0 : Int), Value.int IntKind.u16 (0 : Int), Value.int IntKind.u32 (0 : Int), Value.bool false, Value.int IntKind.u32 (0 : Int), Value.int IntKind.u8 (0 : Int), Value.int IntKind.u16 (0 : Int), Value.int IntKind.u16 (0 : Int), Value.int IntKind.u16 (0 : Int), Value.int IntKind.u16 (0 : Int), Value.int IntKind.u32 (0 : Int), Value.bool false, Value.int IntKind.u32 (0 : Int), Value.int IntKind.u8 (0 : Int), Value.int IntKind.u16 (0 : Int), Value.int IntKind.u16 (0 : Int), Value.int IntKind.u16 (0 : Int), Value.int IntKind.u16 (0 : Int), Value.int IntKind.u32 (0 : Int), Value.bool false, Value.int IntKind.u32 (0 : Int), Value.int IntKind.u8 (0 : Int), Value.int IntKind.u16 (0 : Int), Value.int IntKind.u16 (0 : Int), Value.int IntKind.u16 (0 : Int), Value.int IntKind.u16 (0 : Int), Value.int IntKind.u32 (0 : Int), Value.bool false, Value.int IntKind.u32 (0 : Int), Value.int IntKind.u8 (0 : Int), Value.int IntKind.u16 (0 : Int), Value.int IntKind.u16 (0 : Int), Value.int IntKind.u16 (0 : Int), Value.int IntKind.u16 (0 : Int), Value.int IntKind.u32 (0 : Int), Value.bool false, Value.int IntKind.u32 (8 : Int), Value.int IntKind.u8 (0 : Int), Value.int IntKind.u16 (0 : Int), Value.int IntKind.u16 (64 : Int), Value.int IntKind.u16 (5 : Int), Value.int IntKind.u16 (0 : Int), Value.int IntKind.u32 (0 : Int), Value.bool true] }, Value.int IntKind.i64 (0 : Int)] }, (bif hasN (0 + (IntKind.i64.wrap (IntKind.u32.wrap ((256 : Int) + IntKind.u32.wrap m))).toNat * 1 + 0 + 1) (u8s zs) && isLikeL [Value.int IntKind.u8 (0 : Int)] (u8s zs) (0 + (IntKind.i64.wrap (IntKind.u32.wrap ((256 : Int) + IntKind.u32.wrap m))).toNat * 1 + 0) then bif decide ((0 : Int) < (↑((IntKind.i64.wrap (IntKind.i64.wrap (IntKind.u32.wrap ((256 : Int) + IntKind.u32.wrap m)) + (1 : Int))).toNat - (IntKind.i64.wrap (IntKind.u32.wrap ((256 : Int) + IntKind.u32.wrap m))).toNat) : Int)) then (((bif decide ((0 : Int) ≤ IntKind.i64.wrap (IntKind.u32.wrap ((256 : Int) + IntKind.u32.wrap m))) && decide (IntKind.i64.wrap (IntKind.u32.wrap ((256 : Int) + IntKind.u32.wrap m)) ≤ (↑(IntKind.i64.wrap (IntKind.i64.wrap (IntKind.u32.wrap ((256 : Int) + IntKind.u32.wrap m)) + (1 : Int))).toNat : Int)) then bif decide ((0 : Int) ≤ IntKind.i64.wrap (IntKind.i64.wrap (IntKind.u32.wrap ((256 : Int) + IntKind.u32.wrap m)) + (1 : Int))) && decide (IntKind.i64.wrap (IntKind.i64.wrap (IntKind.u32.wrap ((256 : Int) + IntKind.u32.wrap m)) + (1 : Int)) ≤ (↑(IntKind.i64.wrap (IntKind.i64.wrap (IntKind.u32.wrap ((256 : Int) + IntKind.u32.wrap m)) + (1 : Int))).toNat : Int)) then bif decide ((0 : Int) ≤ IntKind.i64.wrap (IntKind.i64.wrap (IntKind.u32.wrap ((256 : Int) + IntKind.u32.wrap m)) + (1 : Int))) && decide (IntKind.i64.wrap (IntKind.i64.wrap (IntKind.u32.wrap ((256 : Int) + IntKind.u32.wrap m)) + (1 : Int)) ≤ (4096 : Int)) then ((((((((((((((((((((((((((((((((((((((((((((((((((((((((((((((((((((((((((((((((((((((((((((((((((((((((((((((((((((((((((((((((((((((((((((((((((((((((((((((((((((((((((((((((((((((((((((((((((((((((((((((((((((((((((((((((((((((((((((((((((((((((((((((((((True ∧ true = true) ∧ true = true) ∧ true = true) ∧ true = true) ∧ true = true) ∧ true = true) ∧ true = true) ∧ true = true) ∧ true = true) ∧ true = true) ∧ true = true) ∧ true = true) ∧ false = false) ∧ false = false) ∧ false = false) ∧ false = false) ∧ false = false) ∧ false = false) ∧ false = false) ∧ true = true) ∧ true = true) ∧ true = true) ∧ true = true) ∧ true = true) ∧ true = true) ∧ true = true) ∧ true = true) ∧ true = true) ∧ true = true) ∧ true = true) ∧ true = true) ∧ true = true) ∧ false = false) ∧ false = false) ∧ false = false) ∧ false = false) ∧ false = false) ∧ false = false) ∧ false = false) ∧ true = true) ∧ true = true) ∧ true = true) ∧ true = true) ∧ true = true) ∧ true = true) ∧ true = true) ∧ true = true) ∧ true = true) ∧ true = true) ∧ true = true) ∧ true = true) ∧ true = true) ∧ true = true) ∧ true = true) ∧ true = true) ∧ true = true) ∧ true = true) ∧ false = false) ∧ false = false) ∧ false = false) ∧ false = false) ∧ false = false) ∧ false = false) ∧ false = false) ∧ false = false) ∧ false = false) ∧ false = false) ∧ true = true) ∧ true = true) ∧ true = true) ∧ false = false) ∧ false = false) ∧ false = false) ∧ false = false) ∧ false = false) ∧ false = false) ∧ false = false) ∧ false = false) ∧ false = false) ∧ false = false) ∧ false = false) ∧ false = false) ∧ false = false) ∧ true = true) ∧ true = true) ∧ false = false) ∧ true = true) ∧ false = false) ∧ false = false) ∧ false = false) ∧ false = false) ∧ false = false) ∧ false = false) ∧ false = false) ∧ false = false) ∧ false = false) ∧ false = false) ∧ false = false) ∧ false = false) ∧ false = false) ∧ true = true) ∧ true = true) ∧ false = false) ∧ false = false) ∧ false = false) ∧ true = true) ∧ true = true) ∧ false = false) ∧ false = false) ∧ false = false) ∧ false = false) ∧ false = false) ∧ false = false) ∧ decide (m < (-2048 : Int)) = false) ∧ decide (m < (-2048 : Int)) = false) ∧ decide (m < (-2048 : Int)) = false) ∧ decide (m < (-2048 : Int)) = false) ∧ decide (m < (-2048 : Int)) = false) ∧ decide (m < (-2048 : Int)) = false) ∧ false = false) ∧ false = false) ∧ decide (m ≥ (2048 : Int)) = false) ∧ decide (m ≥ (2048 : Int)) = false) ∧ decide (m ≥ (2048 : Int)) = false) ∧ decide (m ≥ (2048 : Int)) = false) ∧ decide (m ≥ (2048 : Int)) = false) ∧ false = false) ∧ false = false) ∧ false = false) ∧ false = false) ∧ false = false) ∧ false = false) ∧ false = false) ∧ false = false) ∧ false = false) ∧ false = false) ∧ false = false) ∧ false = false) ∧ false = false) ∧ false = false) ∧ false = false) ∧ false = false) ∧ false = false) ∧ true = true) ∧ true = true) ∧ true = true) ∧ true = true) ∧ true = true) ∧ true = true) ∧ false = false) ∧ false = false) ∧ false = false) ∧ false = false) ∧ false = false) ∧ false = false) ∧ false = false) ∧ false = false) ∧ false = false) ∧ false = false) ∧ false = false) ∧ false = false) ∧ false = false) ∧ false = false) ∧ false = false) ∧ false = false) ∧ true = true) ∧ true = true) ∧ true = true) ∧ true = true) ∧ true = true) ∧ true = true) ∧ true = true) ∧ true = true) ∧ true = true) ∧ true = true) ∧ true = true) ∧ true = true) ∧ true = true) ∧ false = false) ∧ false = false) ∧ false = false) ∧ false = false) ∧ false = false) ∧ decide (IntKind.u32.wrap ((256 : Int) + IntKind.u32.wrap m) ≥ (256 : Int)) = true) ∧ decide (IntKind.u32.wrap ((256 : Int) + IntKind.u32.wrap m) ≥ (256 : Int)) = true) ∧ decide (IntKind.u32.wrap ((256 : Int) + IntKind.u32.wrap m) ≥ (256 : Int)) = true) ∧ decide (IntKind.u32.wrap ((256 : Int) + IntKind.u32.wrap m) ≥ (256 : Int)) = true) ∧ decide (IntKind.u32.wrap ((256 : Int) + IntKind.u32.wrap m) ≥ (256 : Int)) = true) ∧ (!decide (IntKind.u64.wrap (IntKind.u64.wrap (IntKind.u32.wrap ((256 : Int) + IntKind.u32.wrap m)) + (1 : Int)) ≤ (320 : Int))) = false) ∧ (!decide (IntKind.u64.wrap (IntKind.u64.wrap (IntKind.u32.wrap ((256 : Int) + IntKind.u32.wrap m)) + (1 : Int)) ≤ (320 : Int))) = false) ∧ (!decide (IntKind.u64.wrap (IntKind.u64.wrap (IntKind.u32.wrap ((256 : Int) + IntKind.u32.wrap m)) + (1 : Int)) ≤ (320 : Int))) = false) ∧ (!decide (IntKind.u64.wrap (IntKind.u64.wrap (IntKind.u32.wrap ((256 : Int) + IntKind.u32.wrap m)) + (1 : Int)) ≤ (320 : Int))) = false) ∧ (!decide (IntKind.u64.wrap (IntKind.u64.wrap (IntKind.u32.wrap ((256 : Int) + IntKind.u32.wrap m)) + (1 : Int)) ≤ (320 : Int))) = false) ∧ (!decide (IntKind.u64.wrap (IntKind.u64.wrap (IntKind.u32.wrap ((256 : Int) + IntKind.u32.wrap m)) + (1 : Int)) ≤ (320 : Int))) = false) ∧ (!decide (IntKind.u64.wrap (IntKind.u64.wrap (IntKind.u32.wrap ((256 : Int) + IntKind.u32.wrap m)) + (1 : Int)) ≤ (320 : Int))) = false) ∧ false = false) ∧ false = false) ∧ false = false) ∧ false = false) ∧ false = false) ∧ false = false) ∧ false = false) ∧ (!decide (IntKind.u64.wrap (IntKind.u64.wrap (IntKind.u32.wrap ((256 : Int) + IntKind.u32.wrap m)) + (1 : Int)) ≤ (320 : Int))) = false) ∧ (!decide (IntKind.u64.wrap (IntKind.u64.wrap (IntKind.u32.wrap ((256 : Int) + IntKind.u32.wrap m)) + (1 : Int)) ≤ (320 : Int))) = false) ∧ (!decide (IntKind.u64.wrap (IntKind.u64.wrap (IntKind.u32.wrap ((256 : Int) + IntKind.u32.wrap m)) + (1 : Int)) ≤ (320 : Int))) = false) ∧ decide (IntKind.u64.wrap (IntKind.u64.wrap (IntKind.u32.wrap ((256 : Int) + IntKind.u32.wrap m)) + (1 : Int)) > (4096 : Int)) = false) ∧ ((IntKind.u32.wrap ((256 : Int) + IntKind.u32.wrap m)).tmod (1 : Int) != (0 : Int)) = false) ∧ false = false) ∧ false = false) ∧ false = false) ∧ false = false) ∧ false = false) ∧ false = false) ∧ false = false) ∧ false = false) ∧ false = false) ∧ false = false) ∧ false = false) ∧ false = false) ∧ true = true) ∧ true = true) ∧ true = true) ∧ true = true) ∧ true = true) ∧ true = true) ∧ true = true) ∧ true = true) ∧ true = true) ∧ true = true) ∧ true = true) ∧ true = true) ∧ true = true) ∧ true = true) ∧ true = true) ∧ true = true) ∧ true = true) ∧ true = true) ∧ true = true) ∧ true = true) ∧ true = true) ∧ true = true) ∧ (!decide (IntKind.i64.wrap (IntKind.u32.wrap ((256 : Int) + IntKind.u32.wrap m)) ≤ (4095 : Int))) = false) ∧ true = true) ∧ true = true) ∧ true = true) ∧ true = true) ∧ true = true) ∧ true = true) ∧ false = false) ∧ false = false) ∧ false = false) ∧ decide (IntKind.i64.wrap (IntKind.u32.wrap ((256 : Int) + IntKind.u32.wrap m)) < (0 : Int)) = false) ∧ decide (IntKind.i64.wrap (IntKind.u32.wrap ((256 : Int) + IntKind.u32.wrap m)) < (0 : Int)) = false) ∧ decide (IntKind.i64.wrap (IntKind.u32.wrap ((256 : Int) + IntKind.u32.wrap m)) < (0 : Int)) = false) ∧ decide (IntKind.i64.wrap (IntKind.u32.wrap ((256 : Int) + IntKind.u32.wrap m)) < (0 : Int)) = false) ∧ decide (IntKind.i64.wrap (IntKind.u32.wrap ((256 : Int) + IntKind.u32.wrap m)) < (0 : Int)) = false) ∧ decide (IntKind.i64.wrap (IntKind.u32.wrap ((256 : Int) + IntKind.u32.wrap m)) < (0 : Int)) = false) ∧ decide (IntKind.i64.wrap (IntKind.u32.wrap ((256 : Int) + IntKind.u32.wrap m)) < (0 : Int)) = false) ∧ decide (IntKind.i64.wrap (IntKind.u32.wrap ((256 : Int) + IntKind.u32.wrap m)) > (4095 : Int)) = false else False else False else False) ∧ (IntKind.i64.wrap (IntKind.u32.wrap ((256 : Int) + IntKind.u32.wrap m))).toNat.blt (IntKind.i64.wrap (IntKind.i64.wrap (IntKind.u32.wrap ((256 : Int) + IntKind.u32.wrap m)) + (1 : Int))).toNat = true) ∧ false = false) ∧ false = false else False else False) ∧ false = false) := by kernel_rfl
theorem mv_l1 (v : Int) (m : Int) (zs : List UInt8) : obs (evF Tryz.prog (baseC 3 selMv) noLoop 100 40 13 [frM (4 : Int) v, inM (18 : Int) (6 : Int) m, aPtr] { n := 68, h := arZ false zs ++ rowsH, lo := arLo, esc := 0, T := [(0, true), (1, true), (2, true), (3, true), (4, true), (5, true), (6, true), (7, true), (8, true), (9, true), (10, true), (11, true), (12, false), (13, false), (14, false), (15, false), (16, false), (17, false), (18, false), (19, true), (20, true), (21, true), (22, true), (23, true), (24, true), (25, true), (26, true), (27, true), (28, true), (29, true), (30, true), (31, true), (32, false), (33, false), (34, false), (35, false), (36, false), (37, false), (38, false), (39, true), (40, true), (41, true), (42, true), (43, true), (44, true), (45, true), (46, true), (47, true), (48, true), (49, true), (50, true), (51, true), (52, true), (53, true), (54, true), (55, true), (56, true), (57, false), (58, false), (59, false), (60, false), (61, false), (62, false), (63, false), (64, false), (65, false), (66, false), (67, true), (68, true), (69, true), (70, false), (71, false), (72, false), (73, false), (74, false), (75, false), (76, false), (77, false), (78, false), (79, false), (80, false), (81, false), (82, false), (83, true), (84, true), (85, false), (86, true), (87, false), (88, false), (89, false), (90, false), (91, false), (92, false), (93, false), (94, false), (95, false), (96, false), (97, false), (98, false), (99, false), (100, true), (101, true), (102, false), (103, false), (104, false), (105, true), (106, true), (107, false), (108, false), (109, false), (110, false), (111, false), (112, false), (113, false), (114, false), (115, false), (116, false), (117, false), (118, false), (119, false), (120, false), (121, false), (122, false), (123, false), (124, false), (125, false), (126, false), (127, false), (128, false), (129, false), (130, false), (131, false), (132, false), (133, false), (134, false), (135, false), (136, false), (137, false), (138, false), (139, false), (140, false), (141, false), (142, false), (143, false), (144, false), (145, true), (146, true), (147, true), (148, false), (149, false), (150, true), (151, true), (152, true), (153, false), (154, false), (155, false), (156, false), (157, false), (158, false), (159, false), (160, false), (161, false), (162, false), (163, false), (164, false), (165, false), (166, false), (167, false), (168, false), (169, true), (170, true), (171, true), (172, true), (173, true), (174, true), (175, true), (176, true), (177, true), (178, true), (179, true), (180, true), (181, true), (182, false), (183, false), (184, false), (185, false), (186, false), (187, true), (188, true), (189, true), (190, true), (191, true), (192, false), (193, false), (194, false), (195, false), (196, false), (197, false), (198, false), (199, false), (200, false), (201, false), (202, false), (203, false), (204, false), (205, false), (206, false), (207, false), (208, false), (209, false), (210, false), (211, false), (212, false), (213, false), (214, false), (215, false), (216, false), (217, false), (218, false), (219, false), (220, false), (221, false), (222, false), (223, true), (224, true), (225, true), (226, true), (227, true), (228, true), (229, true), (230, true), (231, true), (232, true), (233, true), (234, true), (235, true), (236, true), (237, true), (238, true), (239, true), (240, true), (241, true), (242, true), (243, true), (244, true), (245, false), (246, false), (247, false), (248, false), (249, true), (250, true), (251, true), (252, false), (253, false), (254, false), (255, false), (256, false), (257, false), (258, false), (259, false), (260, false), (261, false), (262, false), (263, true), (264, false), (265, true), (266, false)], k := 0, O := True : St }) = some (Value.tuple { toList := [Value.agg { toList := [Value.int IntKind.u32 (0 : Int), Value.int IntKind.u8 (0 : Int), Value.int IntKind.u16 (0 : Int), Value.int IntKind.u16 (0 : Int), Value.int IntKind.u16 (0 : Int), Value.int IntKind.u16 (0 : Int), Value.int IntKind.u32 (0 : Int), Value.bool false, Value.int IntKind.u32 (256 : Int), Value.int IntKind.u8 (0 : Int), Value.int IntKind.u16 (256 : Int), Value.int IntKind.u16 (320 : Int), Value.int IntKind.u16 (27 : Int), Value.int IntKind.u16 (0 : Int), Value.int IntKind.u32 (0 : Int), Value.bool true, Value.int IntKind.u32 (0 : Int), Value.int IntKind.u8 (0 : Int), Value.int IntKind.u16 (0 : Int), Value.int IntKind.u16 (0 : Int), Value.int IntKind.u16 (0 : Int), Value.int IntKind.u16 (0 : Int), Value.int IntKind.u32 (0 : Int), Value.bool false, Value.int IntKind.u32 (0 : Int), Value.int IntKind.u8 (0 : Int), Value.int IntKind.u16 (0 : Int), Value.int IntKind.u16 (0 : Int), Value.int IntKind.u16 (0 : Int), Value.int IntKind.u16 (0 : Int), Value.int IntKind.u32 (0 : Int), Value.bool false, Value.int IntKind.u32 (0 : Int), Value.int IntKind.u8 (0 : Int), Value.int IntKind.u16 (0 : Int), Value.int IntKind.u16 (0 : Int), Value.int IntKind.u16 (0 : Int), Value.int IntKind.u16 (0 : Int), Value.int IntKind.u32 (0 : Int), Value.bool false, Value.int IntKind.u32 v, Value.int IntKind.u8 (0 : Int), Value.int IntKind.u16 (0 : Int), Value.int IntKind.u16 (0 : Int), Value.int IntKind.u16 (0 : Int), Value.int IntKind.u16 (0 : Int), Value.int IntKind.u32 (0 : Int), Value.bool false, Value.int IntKind.u32 (bits BinOp.or IntKind.u32 (bits BinOp.or IntKind.u32 (0 : Int) (IntKind.u32.wrap (IntKind.u32.wrap (intOf' (getD' undef (u8s zs) (0 + (IntKind.i64.wrap (IntKind.u32.wrap ((256 : Int) + IntKind.u32.wrap m))).toNat * 1 + 1))) * (256 : Int)))) (IntKind.u32.wrap (intOf' (getD' undef (u8s zs) (0 + (IntKind.i64.wrap (IntKind.u32.wrap ((256 : Int) + IntKind.u32.wrap m))).toNat * 1 + 0))))), Value.int IntKind.u8 (0 : Int), Value.int IntKind.u16 (0 : Int), Value.int IntKind.u16 (0 : Int), Value.int IntKind.u16 (0 : Int), Value.int IntKind.u16 (0 : Int), Value.int IntKind.u32 (0 : Int), Value.bool false, Value.int IntKind.u32 (0 : Int), Value.int IntKind.u8 (0 : Int), Value.int IntKind.u16 (0 : Int), Value.int IntKind.u16 (0 : Int), Value.int IntKind.u16 (0 : Int), Value.int IntKind.u16 (0 : Int), Value.int IntKind.u32 (0 : Int), Value.bool false, Value.int IntKind.u32 (0 : Int), Value.int IntKind.u8 (0 : Int), Value.int IntKind.u16 (0 : Int), Value.int IntKind.u16 (0 : Int), Value.int IntKind.u16 (0 : Int), Value.int IntKind.u16 (0 : Int), Value.int IntKind.u32 (0 : Int), Value.bool false, Value.int IntKind.u32 (0 : Int), Value.int IntKind.u8 (0 : Int), Value.int IntKind.u16 (0 : Int), Value.int IntKind.u16 (0 : Int), Value.int IntKind.u16 (0 : Int), Value.int IntKind.u16 (0 : Int), Value.int IntKind.u32 (0 : Int), Value.bool false, Value.int IntKind.u32 (0 : Int), Value.int IntKind.u8 (0 : Int), Value.int IntKind.u16 (0 : Int), Value.int IntKind.u16 (0 : Int), Value.int IntKind.u16 (0 : Int), Value.int IntKind.u16 (0 : Int), Value.int IntKind.u32 (0 : Int), Value.bool false, Value.int IntKind.u32 (0 : Int), Value.int IntKind.u8 (0 : Int), Value.int IntKind.u16 (0 : Int), Value.int IntKind.u16 (0 : Int), Value.int IntKind.u16 (0 : Int), Value.int IntKind.u16 (0 : Int), Value.int IntKind.u32 (0 : Int), Value.bool false, Value.int IntKind.u32 (0 : Int), Value.int IntKind.u8 (0 : Int), Value.int IntKind.u16 (0 : Int), Value.int IntKind.u16 (0 : Int), Value.int IntKind.u16 (0 : Int), Value.int IntKind.u16 (0 : Int), Value.int IntKind.u32 (0 : Int), Value.bool false, Value.int IntKind.u32 (0 : Int), Value.int IntKind.u8 (0 : Int), Value.int IntKind.u16 (0 : Int), Value.int IntKind.u16 (0 : Int), Value.int IntKind.u16 (0 : Int), Value.int IntKind.u16 (0 : Int), Value.int IntKind.u32 (0 : Int), Value.bool false, Value.int IntKind.u32 (0 : Int), Value.int IntKind.u8 (0 : Int), Value.int IntKind.u16 (0 : Int), Value.int IntKind.u16 (0 : Int), Value.int IntKind.u16 (0 : Int), Value.int IntKind.u16 (0 : Int), Value.int IntKind.u32 (0 : Int), Value.bool false, Value.int IntKind.u32 (0 : Int), Value.int IntKind.u8 (0 : Int), Value.int IntKind.u16 (0 : Int), Value.int IntKind.u16 (0 : Int), Value.int IntKind.u16 (0 : Int), Value.int IntKind.u16 (0 : Int), Value.int IntKind.u32 (0 : Int), Value.bool false, Value.int IntKind.u32 (8 : Int), Value.int IntKind.u8 (0 : Int), Value.int IntKind.u16 (0 : Int), Value.int IntKind.u16 (64 : Int), Value.int IntKind.u16 (5 : Int), Value.int IntKind.u16 (0 : Int), Value.int IntKind.u32 (0 : Int), Value.bool true] }, Value.int IntKind.i64 (0 : Int)] }, (bif hasN (0 + (IntKind.i64.wrap (IntKind.u32.wrap ((256 : Int) + IntKind.u32.wrap m))).toNat * 1 + 0 + 1) (u8s zs) && isLikeL [Value.int IntKind.u8 (0 : Int)] (u8s zs) (0 + (IntKind.i64.wrap (IntKind.u32.wrap ((256 : Int) + IntKind.u32.wrap m))).toNat * 1 + 0) then bif decide ((0 : Int) < (↑((IntKind.i64.wrap (IntKind.i64.wrap (IntKind.u32.wrap ((256 : Int) + IntKind.u32.wrap m)) + (2 : Int))).toNat - (IntKind.i64.wrap (IntKind.u32.wrap ((256 : Int) + IntKind.u32.wrap m))).toNat) : Int)) then bif hasN (0 + (IntKind.i64.wrap (IntKind.u32.wrap ((256 : Int) + IntKind.u32.wrap m))).toNat * 1 + 1 + 1) (u8s zs) && isLikeL [Value.int IntKind.u8 (0 : Int)] (u8s zs) (0 + (IntKind.i64.wrap (IntKind.u32.wrap ((256 : Int) + IntKind.u32.wrap m))).toNat * 1 + 1) then bif decide ((1 : Int) < (↑((IntKind.i64.wrap (IntKind.i64.wrap (IntKind.u32.wrap ((256 : Int) + IntKind.u32.wrap m)) + (2 : Int))).toNat - (IntKind.i64.wrap (IntKind.u32.wrap ((256 : Int) + IntKind.u32.wrap m))).toNat) : Int)) then (((bif decide ((0 : Int) ≤ IntKind.i64.wrap (IntKind.u32.wrap ((256 : Int) + IntKind.u32.wrap m))) && decide (IntKind.i64.wrap (IntKind.u32.wrap ((256 : Int) + IntKind.u32.wrap m)) ≤ (↑(IntKind.i64.wrap (IntKind.i64.wrap (IntKind.u32.wrap ((256 : Int) + IntKind.u32.wrap m)) + (2 : Int))).toNat : Int)) then bif decide ((0 : Int) ≤ IntKind.i64.wrap (IntKind.i64.wrap (IntKind.u32.wrap ((256 : Int) + IntKind.u32.wrap m)) + (2 : Int))) && decide (IntKind.i64.wrap (IntKind.i64.wrap (IntKind.u32.wrap ((256 : Int) + IntKind.u32.wrap m)) + (2 : Int)) ≤ (↑(IntKind.i64.wrap (IntKind.i64.wrap (IntKind.u32.wrap ((256 : Int) + IntKind.u32.wrap m)) + (2 : Int))).toNat : Int)) then bif decide ((0 : Int) ≤ IntKind.i64.wrap (IntKind.i64.wrap (IntKind.u32.wrap ((256 : Int) + IntKind.u32.wrap m)) + (2 : Int))) && decide (IntKind.i64.wrap (IntKind.i64.wrap (IntKind.u32.wrap ((256 : Int) + IntKind.u32.wrap m)) + (2 : Int)) ≤ (4096 : Int)) then ((((((((((((((((((((((((((((((((((((((((((((((((((((((((((((((((((((((((((((((((((((((((((((((((((((((((((((((((((((((((((((((((((((((((((((((((((((((((((((((((((((((((((((((((((((((((((((((((((((((((((((((((((((((((((((((((((((((((((((((((((((((((((((((((((((((True ∧ true = true) ∧ true = true) ∧ true = true) ∧ true = true) ∧ true = true) ∧ true = true) ∧ true = true) ∧ true = true) ∧ true = true) ∧ true = true) ∧ true = true) ∧ true = true) ∧ false = false) ∧ false = false) ∧ false = false) ∧ false = false) ∧ false = false) ∧ false = false) ∧ false = false) ∧ true = true) ∧ true = true) ∧ true = true) ∧ true = true) ∧ true = true) ∧ true = true) ∧ true = true) ∧ true = true) ∧ true = true) ∧ true = true) ∧ true = true) ∧ true = true) ∧ true = true) ∧ false = false) ∧ false = false) ∧ false = false) ∧ false = false) ∧ false = false) ∧ false = false) ∧ false = false) ∧ true = true) ∧ true = true) ∧ true = true) ∧ true = true) ∧ true = true) ∧ true = true) ∧ true = true) ∧ true = true) ∧ true = true) ∧ true = true) ∧ true = true) ∧ true = true) ∧ true = true) ∧ true = true) ∧ true = true) ∧ true = true) ∧ true = true) ∧ true = true) ∧ false = false) ∧ false = false) ∧ false = false) ∧ false = false) ∧ false = false) ∧ false = false) ∧ false = false) ∧ false = false) ∧ false = false) ∧ false = false) ∧ true = true) ∧ true = true) ∧ true = true) ∧ false = false) ∧ false = false) ∧ false = false) ∧ false = false) ∧ false = false) ∧ false = false) ∧ false = false) ∧ false = false) ∧ false = false) ∧ false = false) ∧ false = false) ∧ false = false) ∧ false = false) ∧ true = true) ∧ true = true) ∧ false = false) ∧ true = true) ∧ false = false) ∧ false = false) ∧ false = false) ∧ false = false) ∧ false = false) ∧ false = false) ∧ false = false) ∧ false = false) ∧ false = false) ∧ false = false) ∧ false = false) ∧ false = false) ∧ false = false) ∧ true = true) ∧ true = true) ∧ false = false) ∧ false = false) ∧ false = false) ∧ true = true) ∧ true = true) ∧ false = false) ∧ false = false) ∧ false = false) ∧ false = false) ∧ false = false) ∧ false = false) ∧ decide (m < (-2048 : Int)) = false) ∧ decide (m < (-2048 : Int)) = false) ∧ decide (m < (-2048 : Int)) = false) ∧ decide (m < (-2048 : Int)) = false) ∧ decide (m < (-2048 : Int)) = false) ∧ decide (m < (-2048 : Int)) = false) ∧ false = false) ∧ false = false) ∧ decide (m ≥ (2048 : Int)) = false) ∧ decide (m ≥ (2048 : Int)) = false) ∧ decide (m ≥ (2048 : Int)) = false) ∧ decide (m ≥ (2048 : Int)) = false) ∧ decide (m ≥ (2048 : Int)) = false) ∧ false = false) ∧ false = false) ∧ false = false) ∧ false = false) ∧ false = false) ∧ false = false) ∧ false = false) ∧ false = false) ∧ false = false) ∧ false = false) ∧ false = false) ∧ false = false) ∧ false = false) ∧ false = false) ∧ false = false) ∧ false = false) ∧ false = false) ∧ false = false) ∧ false = false) ∧ true = true) ∧ true = true) ∧ true = true) ∧ false = false) ∧ false = false) ∧ true = true) ∧ true = true) ∧ true = true) ∧ false = false) ∧ false = false) ∧ false = false) ∧ false = false) ∧ false = false) ∧ false = false) ∧ false = false) ∧ false = false) ∧ false = false) ∧ false = false) ∧ false = false) ∧ false = false) ∧ false = false) ∧ false = false) ∧ false = false) ∧ false = false) ∧ true = true) ∧ true = true) ∧ true = true) ∧ true = true) ∧ true = true) ∧ true = true) ∧ true = true) ∧ true = true) ∧ true = true) ∧ true = true) ∧ true = true) ∧ true = true) ∧ true = true) ∧ false = false) ∧ false = false) ∧ false = false) ∧ false = false) ∧ false = false) ∧ decide (IntKind.u32.wrap ((256 : Int) + IntKind.u32.wrap m) ≥ (256 : Int)) = true) ∧ decide (IntKind.u32.wrap ((256 : Int) + IntKind.u32.wrap m) ≥ (256 : Int)) = true) ∧ decide (IntKind.u32.wrap ((256 : Int) + IntKind.u32.wrap m) ≥ (256 : Int)) = true) ∧ decide (IntKind.u32.wrap ((256 : Int) + IntKind.u32.wrap m) ≥ (256 : Int)) = true) ∧ decide (IntKind.u32.wrap ((256 : Int) + IntKind.u32.wrap m) ≥ (256 : Int)) = true) ∧ (!decide (IntKind.u64.wrap (IntKind.u64.wrap (IntKind.u32.wrap ((256 : Int) + IntKind.u32.wrap m)) + (2 : Int)) ≤ (320 : Int))) = false) ∧ (!decide (IntKind.u64.wrap (IntKind.u64.wrap (IntKind.u32.wrap ((256 : Int) + IntKind.u32.wrap m)) + (2 : Int)) ≤ (320 : Int))) = false) ∧ (!decide (IntKind.u64.wrap (IntKind.u64.wrap (IntKind.u32.wrap ((256 : Int) + IntKind.u32.wrap m)) + (2 : Int)) ≤ (320 : Int))) = false) ∧ (!decide (IntKind.u64.wrap (IntKind.u64.wrap (IntKind.u32.wrap ((256 : Int) + IntKind.u32.wrap m)) + (2 : Int)) ≤ (320 : Int))) = false) ∧ (!decide (IntKind.u64.wrap (IntKind.u64.wrap (IntKind.u32.wrap ((256 : Int) + IntKind.u32.wrap m)) + (2 : Int)) ≤ (320 : Int))) = false) ∧ (!decide (IntKind.u64.wrap (IntKind.u64.wrap (IntKind.u32.wrap ((256 : Int) + IntKind.u32.wrap m)) + (2 : Int)) ≤ (320 : Int))) = false) ∧ (!decide (IntKind.u64.wrap (IntKind.u64.wrap (IntKind.u32.wrap ((256 : Int) + IntKind.u32.wrap m)) + (2 : Int)) ≤ (320 : Int))) = false) ∧ false = false) ∧ false = false) ∧ false = false) ∧ false = false) ∧ false = false) ∧ false = false) ∧ false = false) ∧ (!decide (IntKind.u64.wrap (IntKind.u64.wrap (IntKind.u32.wrap ((256 : Int) + IntKind.u32.wrap m)) + (2 : Int)) ≤ (320 : Int))) = false) ∧ (!decide (IntKind.u64.wrap (IntKind.u64.wrap (IntKind.u32.wrap ((256 : Int) + IntKind.u32.wrap m)) + (2 : Int)) ≤ (320 : Int))) = false) ∧ (!decide (IntKind.u64.wrap (IntKind.u64.wrap (IntKind.u32.wrap ((256 : Int) + IntKind.u32.wrap m)) + (2 : Int)) ≤ (320 : Int))) = false) ∧ decide (IntKind.u64.wrap (IntKind.u64.wrap (IntKind.u32.wrap ((256 : Int) + IntKind.u32.wrap m)) + (2 : Int)) > (4096 : Int)) = false) ∧ ((IntKind.u32.wrap ((256 : Int) + IntKind.u32.wrap m)).tmod (2 : Int) != (0 : Int)) = false) ∧ false = false) ∧ false = false) ∧ false = false) ∧ false = false) ∧ false = false) ∧ false = false) ∧ false = false) ∧ false = false) ∧ false = false) ∧ false = false) ∧ false = false) ∧ false = false) ∧ true = true) ∧ true = true) ∧ true = true) ∧ true = true) ∧ true = true) ∧ true = true) ∧ true = true) ∧ true = true) ∧ true = true) ∧ true = true) ∧ true = true) ∧ true = true) ∧ true = true) ∧ true = true) ∧ true = true) ∧ true = true) ∧ true = true) ∧ true = true) ∧ true = true) ∧ true = true) ∧ true = true) ∧ true = true) ∧ (!decide (IntKind.i64.wrap (IntKind.u32.wrap ((256 : Int) + IntKind.u32.wrap m)) ≤ (4094 : Int))) = false) ∧ false = false) ∧ false = false) ∧ false = false) ∧ true = true) ∧ true = true) ∧ true = true) ∧ false = false) ∧ false = false) ∧ false = false) ∧ decide (IntKind.i64.wrap (IntKind.u32.wrap ((256 : Int) + IntKind.u32.wrap m)) < (0 : Int)) = false) ∧ decide (IntKind.i64.wrap (IntKind.u32.wrap ((256 : Int) + IntKind.u32.wrap m)) < (0 : Int)) = false) ∧ decide (IntKind.i64.wrap (IntKind.u32.wrap ((256 : Int) + IntKind.u32.wrap m)) < (0 : Int)) = false) ∧ decide (IntKind.i64.wrap (IntKind.u32.wrap ((256 : Int) + IntKind.u32.wrap m)) < (0 : Int)) = false) ∧ decide (IntKind.i64.wrap (IntKind.u32.wrap ((256 : Int) + IntKind.u32.wrap m)) < (0 : Int)) = false) ∧ decide (IntKind.i64.wrap (IntKind.u32.wrap ((256 : Int) + IntKind.u32.wrap m)) < (0 : Int)) = false) ∧ decide (IntKind.i64.wrap (IntKind.u32.wrap ((256 : Int) + IntKind.u32.wrap m)) < (0 : Int)) = false) ∧ decide (IntKind.i64.wrap (IntKind.u32.wrap ((256 : Int) + IntKind.u32.wrap m)) > (4094 : Int)) = false else False else False else False) ∧ (IntKind.i64.wrap (IntKind.u32.wrap ((256 : Int) + IntKind.u32.wrap m))).toNat.blt (IntKind.i64.wrap (IntKind.i64.wrap (IntKind.u32.wrap ((256 : Int) + IntKind.u32.wrap m)) + (2 : Int))).toNat = true) ∧ false = false) ∧ true = true else False else False else False else False) ∧ false = false) := by kernel_rfl
theorem mv_l2 (v : Int) (m : Int) (zs : List UInt8) : obs (evF Tryz.prog (baseC 3 selMv) noLoop 100 40 13 [frM (4 : Int) v, inM (19 : Int) (6 : Int) m, aPtr] { n := 68, h := arZ false zs ++ rowsH, lo := arLo, esc := 0, T := [(0, true), (1, true), (2, true), (3, true), (4, true), (5, true), (6, true), (7, true), (8, true), (9, true), (10, true), (11, true), (12, false), (13, false), (14, false), (15, false), (16, false), (17, false), (18, false), (19, true), (20, true), (21, true), (22, true), (23, true), (24, true), (25, true), (26, true), (27, true), (28, true), (29, true), (30, true), (31, true), (32, false), (33, false), (34, false), (35, false), (36, false), (37, false), (38, false), (39, true), (40, true), (41, true), (42, true), (43, true), (44, true), (45, true), (46, true), (47, true), (48, true), (49, true), (50, true), (51, true), (52, true), (53, true), (54, true), (55, true), (56, true), (57, false), (58, false), (59, false), (60, false), (61, false), (62, false), (63, false), (64, false), (65, false), (66, false), (67, true), (68, true), (69, true), (70, false), (71, false), (72, false), (73, false), (74, false), (75, false), (76, false), (77, false), (78, false), (79, false), (80, false), (81, false), (82, false), (83, true), (84, true), (85, false), (86, true), (87, false), (88, false), (89, false), (90, false), (91, false), (92, false), (93, false), (94, false), (95, false), (96, false), (97, false), (98, false), (99, false), (100, true), (101, true), (102, false), (103, false), (104, false), (105, true), (106, true), (107, false), (108, false), (109, false), (110, false), (111, false), (112, false), (113, false), (114, false), (115, false), (116, false), (117, false), (118, false), (119, false), (120, false), (121, false), (122, false), (123, false), (124, false), (125, false), (126, false), (127, false), (128, false), (129, false), (130, false), (131, false), (132, false), (133, false), (134, false), (135, false), (136, false), (137, false), (138, false), (139, false), (140, false), (141, false), (142, false), (143, false), (144, false), (145, false), (146, false), (147, true), (148, true), (149, true), (150, false), (151, false), (152, false), (153, false), (154, true), (155, true), (156, true), (157, false), (158, false), (159, false), (160, false), (161, false), (162, false), (163, false), (164, false), (165, false), (166, false), (167, false), (168, false), (169, false), (170, false), (171, false), (172, false), (173, true), (174, true), (175, true), (176, true), (177, true), (178, true), (179, true), (180, true), (181, true), (182, true), (183, true), (184, true), (185, true), (186, false), (187, false), (188, false), (189, false), (190, false), (191, true), (192, true), (193, true), (194, true), (195, true), (196, false), (197, false), (198, false), (199, false), (200, false), (201, false), (202, false), (203, false), (204, false), (205, false), (206, false), (207, false), (208, false), (209, false), (210, false), (211, false), (212, false), (213, false), (214, false), (215, false), (216, false), (217, false), (218, false), (219, false), (220, false), (221, false), (222, false), (223, false), (224, false), (225, false), (226, false), (227, true), (228, true), (229, true), (230, true), (231, true), (232, true), (233, true), (234, true), (235, true), (236, true), (237, true), (238, true), (239, true), (240, true), (241, true), (242, true), (243, true), (244, true), (245, true), (246, true), (247, true), (248, true), (249, false), (250, false), (251, false), (252, false), (253, false), (254, false), (255, false), (256, false), (257, false), (258, false), (259, false), (260, false), (261, false), (262, false), (263, false), (264, false), (265, false), (266, false), (267, true), (268, true), (269, false)], k := 0, O := True : St }) = some (Value.tuple { toList := [Value.agg { toList := [Value.int IntKind.u32 (0 : Int), Value.int IntKind.u8 (0 : Int), Value.int IntKind.u16 (0 : Int), Value.int IntKind.u16 (0 : Int), Value.int IntKind.u16 (0 : Int), Value.int IntKind.u16 (0 : Int), Value.int IntKind.u32 (0 : Int), Value.bool false, Value.int IntKind.u32 (256 : Int), Value.int IntKind.u8 (0 : Int), Value.int IntKind.u16 (256 : Int), Value.int IntKind.u16 (320 : Int), Value.int IntKind.u16 (27 : Int), Value.int IntKind.u16 (0 : Int), Value.int IntKind.u32 (0 : Int), Value.bool true, Value.int IntKind.u32 (0 : Int), Value.int IntKind.u8 (0 : Int), Value.int IntKind.u16 (0 : Int), Value.int IntKind.u16 (0 : Int), Value.int IntKind.u16 (0 : Int), Value.int IntKind.u16 (0 : Int), Value.int IntKind.u32 (0 : Int), Value.bool false, Value.int IntKind.u32 (0 : Int), Value.int IntKind.u8 (0 : Int), Value.int IntKind.u16 (0 : Int), Value.int IntKind.u16 (0 : Int), Value.int IntKind.u16 (0 : Int), Value.int IntKind.u16 (0 : Int), Value.int IntKind.u32 (0 : Int), Value.bool false, Value.int IntKind.u32 (0 : Int), Value.int IntKind.u8 (0 : Int), Value.int IntKind.u16 (0 : Int), Value.int IntKind.u16 (0 : Int), Value.int IntKind.u16 (0 : Int), Value.int IntKind.u16 (0 : Int), Value.int IntKind.u32 (0 : Int), Value.bool false, Value.int IntKind.u32 v, Value.int IntKind.u8 (0 : Int), Value.int IntKind.u16 (0 : Int), Value.int IntKind.u16 (0 : Int), Value.int IntKind.u16 (0 : Int), Value.int IntKind.u16 (0 : Int), Value.int IntKind.u32 (0 : Int), Value.bool false, Value.int IntKind.u32 (bits BinOp.or IntKind.u32 (bits BinOp.or IntKind.u32 (bits BinOp.or IntKind.u32 (IntKind.u32.wrap (IntKind.u32.wrap (intOf' (getD' undef (u8s zs) (0 + (IntKind.i64.wrap (IntKind.u32.wrap ((256 : Int) + IntKind.u32.wrap m))).toNat * 1 + 3))) * (16777216 : Int))) (IntKind.u32.wrap (IntKind.u32.wrap (intOf' (getD' undef (u8s zs) (0 + (IntKind.i64.wrap (IntKind.u32.wrap ((256 : Int) + IntKind.u32.wrap m))).toNat * 1 + 2))) * (65536 : Int)))) (IntKind.u32.wrap (IntKind.u32.wrap (intOf' (getD' undef (u8s zs) (0 + (IntKind.i64.wrap (IntKind.u32.wrap ((256 : Int) + IntKind.u32.wrap m))).toNat * 1 + 1))) * (256 : Int)))) (IntKind.u32.wrap (intOf' (getD' undef (u8s zs) (0 + (IntKind.i64.wrap (IntKind.u32.wrap ((256 : Int) + IntKind.u32.wrap m))).toNat * 1 + 0))))), Value.int IntKind.u8 (0 : Int), Value.int IntKind.u16 (0 : Int), Value.int IntKind.u16 (0 : Int), Value.int IntKind.u16 (0 : Int), Value.int IntKind.u16 (0 : Int), Value.int IntKind.u32 (0 : Int), Value.bool false, Value.int IntKind.u32 (0 : Int), Value.int IntKind.u8 (0 : Int), Value.int IntKind.u16 (0 : Int), Value.int IntKind.u16 (0 : Int), Value.int IntKind.u16 (0 : Int), Value.int IntKind.u16 (0 : Int), Value.int IntKind.u32 (0 : Int), Value.bool false, Value.int IntKind.u32 (0 : Int), Value.int IntKind.u8 (0 : Int), Value.int IntKind.u16 (0 : Int), Value.int IntKind.u16 (0 : Int), Value.int IntKind.u16 (0 : Int), Value.int IntKind.u16 (0 : Int), Value.int IntKind.u32 (0 : Int), Value.bool false, Value.int IntKind.u32 (0 : Int), Value.int IntKind.u8 (0 : Int), Value.int IntKind.u16 (0 : Int), Value.int IntKind.u16 (0 : Int), Value.int IntKind.u16 (0 : Int), Value.int IntKind.u16 (0 : Int), Value.int IntKind.u32 (0 : Int), Value.bool false, Value.int IntKind.u32 (0 : Int), Value.int IntKind.u8 (0 : Int), Value.int IntKind.u16 (0 : Int), Value.int IntKind.u16 (0 : Int), Value.int IntKind.u16 (0 : Int), Value.int IntKind.u16 (0 : Int), Value.int IntKind.u32 (0 : Int), Value.bool false, Value.int IntKind.u32 (0 : Int), Value.int IntKind.u8 (0 : Int), Value.int IntKind.u16 (0 : Int), Value.int IntKind.u16 (0 : Int), Value.int IntKind.u16 (0 : Int), Value.int IntKind.u16 (0 : Int), Value.int IntKind.u32 (0 : Int), Value.bool false, Value.int IntKind.u32 (0 : Int), Value.int IntKind.u8 (0 : Int), Value.int IntKind.u16 (0 : Int), Value.int IntKind.u16 (0 : Int), Value.int IntKind.u16 (0 : Int), Value.int IntKind.u16 (0 : Int), Value.int IntKind.u32 (0 : Int), Value.bool false, Value.int IntKind.u32 (0 : Int), Value.int IntKind.u8 (0 : Int), Value.int IntKind.u16 (0 : Int), Value.int IntKind.u16 (0 : Int), Value.int IntKind.u16 (0 : Int), Value.int IntKind.u16 (0 : Int), Value.int IntKind.u32 (0 : Int), Value.bool false, Value.int IntKind.u32 (0 : Int), Value.int IntKind.u8 (0 : Int), Value.int IntKind.u16 (0 : Int), Value.int IntKind.u16 (0 : Int), Value.int IntKind.u16 (0 : Int), Value.int IntKind.u16 (0 : Int), Value.int IntKind.u32 (0 : Int), Value.bool false, Value.int IntKind.u32 (0 : Int), Value.int IntKind.u8 (0 : Int), Value.int IntKind.u16 (0 : Int), Value.int IntKind.u16 (0 : Int), Value.int IntKind.u16 (0 : Int), Value.int IntKind.u16 (0 : Int), Value.int IntKind.u32 (0 : Int), Value.bool false, Value.int IntKind.u32 (8 : Int), Value.int IntKind.u8 (0 : Int), Value.int IntKind.u16 (0 : Int), Value.int IntKind.u16 (64 : Int), Value.int IntKind.u16 (5 : Int), Value.int IntKind.u16 (0 : Int), Value.int IntKind.u32 (0 : Int), Value.bool true] }, Value.int IntKind.i64 (0 : Int)] }, (bif hasN (0 + (IntKind.i64.wrap (IntKind.u32.wrap ((256 : Int) + IntKind.u32.wrap m))).toNat * 1 + 0 + 1) (u8s zs) && isLikeL [Value.int IntKind.u8 (0 : Int)] (u8s zs) (0 + (IntKind.i64.wrap (IntKind.u32.wrap ((256 : Int) + IntKind.u32.wrap m))).toNat * 1 + 0) then bif decide ((0 : Int) < (↑((IntKind.i64.wrap (IntKind.i64.wrap (IntKind.u32.wrap ((256 : Int) + IntKind.u32.wrap m)) + (4 : Int))).toNat - (IntKind.i64.wrap (IntKind.u32.wrap ((256 : Int) + IntKind.u32.wrap m))).toNat) : Int)) then bif hasN (0 + (IntKind.i64.wrap (IntKind.u32.wrap ((256 : Int) + IntKind.u32.wrap m))).toNat * 1 + 1 + 1) (u8s zs) && isLikeL [Value.int IntKind.u8 (0 : Int)] (u8s zs) (0 + (IntKind.i64.wrap (IntKind.u32.wrap ((256 : Int) + IntKind.u32.wrap m))).toNat * 1 + 1) then bif decide ((1 : Int) < (↑((IntKind.i64.wrap (IntKind.i64.wrap (IntKind.u32.wrap ((256 : Int) + IntKind.u32.wrap m)) + (4 : Int))).toNat - (IntKind.i64.wrap (IntKind.u32.wrap ((256 : Int) + IntKind.u32.wrap m))).toNat) : Int)) then bif hasN (0 + (IntKind.i64.wrap (IntKind.u32.wrap ((256 : Int) + IntKind.u32.wrap m))).toNat * 1 + 2 + 1) (u8s zs) && isLikeL [Value.int IntKind.u8 (0 : Int)] (u8s zs) (0 + (IntKind.i64.wrap (IntKind.u32.wrap ((256 : Int) + IntKind.u32.wrap m))).toNat * 1 + 2) then bif decide ((2 : Int) < (↑((IntKind.i64.wrap (IntKind.i64.wrap (IntKind.u32.wrap ((256 : Int) + IntKind.u32.wrap m)) + (4 : Int))).toNat - (IntKind.i64.wrap (IntKind.u32.wrap ((256 : Int) + IntKind.u32.wrap m))).toNat) : Int)) then bif hasN (0 + (IntKind.i64.wrap (IntKind.u32.wrap ((256 : Int) + IntKind.u32.wrap m))).toNat * 1 + 3 + 1) (u8s zs) && isLikeL [Value.int IntKind.u8 (0 : Int)] (u8s zs) (0 + (IntKind.i64.wrap (IntKind.u32.wrap ((256 : Int) + IntKind.u32.wrap m))).toNat * 1 + 3) then bif decide ((3 : Int) < (↑((IntKind.i64.wrap (IntKind.i64.wrap (IntKind.u32.wrap ((256 : Int) + IntKind.u32.wrap m)) + (4 : Int))).toNat - (IntKind.i64.wrap (IntKind.u32.wrap ((256 : Int) + IntKind.u32.wrap m))).toNat) : Int)) then ((bif decide ((0 : Int) ≤ IntKind.i64.wrap (IntKind.u32.wrap ((256 : Int) + IntKind.u32.wrap m))) && decide (IntKind.i64.wrap (IntKind.u32.wrap ((256 : Int) + IntKind.u32.wrap m)) ≤ (↑(IntKind.i64.wrap (IntKind.i64.wrap (IntKind.u32.wrap ((256 : Int) + IntKind.u32.wrap m)) + (4 : Int))).toNat : Int)) then bif decide ((0 : Int) ≤ IntKind.i64.wrap (IntKind.i64.wrap (IntKind.u32.wrap ((256 : Int) + IntKind.u32.wrap m)) + (4 : Int))) && decide (IntKind.i64.wrap (IntKind.i64.wrap (IntKind.u32.wrap ((256 : Int) + IntKind.u32.wrap m)) + (4 : Int)) ≤ (↑(IntKind.i64.wrap (IntKind.i64.wrap (IntKind.u32.wrap ((256 : Int) + IntKind.u32.wrap m)) + (4 : Int))).toNat : Int)) then bif decide ((0 : Int) ≤ IntKind.i64.wrap (IntKind.i64.wrap (IntKind.u32.wrap ((256 : Int) + IntKind.u32.wrap m)) + (4 : Int))) && decide (IntKind.i64.wrap (IntKind.i64.wrap (IntKind.u32.wrap ((256 : Int) + IntKind.u32.wrap m)) + (4 : Int)) ≤ (4096 : Int)) then ((((((((((((((((((((((((((((((((((((((((((((((((((((((((((((((((((((((((((((((((((((((((((((((((((((((((((((((((((((((((((((((((((((((((((((((((((((((((((((((((((((((((((((((((((((((((((((((((((((((((((((((((((((((((((((((((((((((((((((((((((((((((((((((((((((((((((True ∧ true = true) ∧ true = true) ∧ true = true) ∧ true = true) ∧ true = true) ∧ true = true) ∧ true = true) ∧ true = true) ∧ true = true) ∧ true = true) ∧ true = true) ∧ true = true) ∧ false = false) ∧ false = false) ∧ false = false) ∧ false = false) ∧ false = false) ∧ false = false) ∧ false = false) ∧ true = true) ∧ true = true) ∧ true = true) ∧ true = true) ∧ true = true) ∧ true = true) ∧ true = true) ∧ true = true) ∧ true = true) ∧ true = true) ∧ true = true) ∧ true = true) ∧ true = true) ∧ false = false) ∧ false = false) ∧ false = false) ∧ false = false) ∧ false = false) ∧ false = false) ∧ false = false) ∧ true = true) ∧ true = true) ∧ true = true) ∧ true = true) ∧ true = true) ∧ true = true) ∧ true = true) ∧ true = true) ∧ true = true) ∧ true = true) ∧ true = true) ∧ true = true) ∧ true = true) ∧ true = true) ∧ true = true) ∧ true = true) ∧ true = true) ∧ true = true) ∧ false = false) ∧ false = false) ∧ false = false) ∧ false = false) ∧ false = false) ∧ false = false) ∧ false = false) ∧ false = false) ∧ false = false) ∧ false = false) ∧ true = true) ∧ true = true) ∧ true = true) ∧ false = false) ∧ false = false) ∧ false = false) ∧ false = false) ∧ false = false) ∧ false = false) ∧ false = false) ∧ false = false) ∧ false = false) ∧ false = false) ∧ false = false) ∧ false = false) ∧ false = false) ∧ true = true) ∧ true = true) ∧ false = false) ∧ true = true) ∧ false = false) ∧ false = false) ∧ false = false) ∧ false = false) ∧ false = false) ∧ false = false) ∧ false = false) ∧ false = false) ∧ false = false) ∧ false = false) ∧ false = false) ∧ false = false) ∧ false = false) ∧ true = true) ∧ true = true) ∧ false = false) ∧ false = false) ∧ false = false) ∧ true = true) ∧ true = true) ∧ false = false) ∧ false = false) ∧ false = false) ∧ false = false) ∧ false = false) ∧ false = false) ∧ decide (m < (-2048 : Int)) = false) ∧ decide (m < (-2048 : Int)) = false) ∧ decide (m < (-2048 : Int)) = false) ∧ decide (m < (-2048 : Int)) = false) ∧ decide (m < (-2048 : Int)) = false) ∧ decide (m < (-2048 : Int)) = false) ∧ false = false) ∧ false = false) ∧ decide (m ≥ (2048 : Int)) = false) ∧ decide (m ≥ (2048 : Int)) = false) ∧ decide (m ≥ (2048 : Int)) = false) ∧ decide (m ≥ (2048 : Int)) = false) ∧ decide (m ≥ (2048 : Int)) = false) ∧ false = false) ∧ false = false) ∧ false = false) ∧ false = false) ∧ false = false) ∧ false = false) ∧ false = false) ∧ false = false) ∧ false = false) ∧ false = false) ∧ false = false) ∧ false = false) ∧ false = false) ∧ false = false) ∧ false = false) ∧ false = false) ∧ false = false) ∧ false = false) ∧ false = false) ∧ false = false) ∧ false = false) ∧ true = true) ∧ true = true) ∧ true = true) ∧ false = false) ∧ false = false) ∧ false = false) ∧ false = false) ∧ true = true) ∧ true = true) ∧ true = true) ∧ false = false) ∧ false = false) ∧ false = false) ∧ false = false) ∧ false = false) ∧ false = false) ∧ false = false) ∧ false = false) ∧ false = false) ∧ false = false) ∧ false = false) ∧ false = false) ∧ false = false) ∧ false = false) ∧ false = false) ∧ false = false) ∧ true = true) ∧ true = true) ∧ true = true) ∧ true = true) ∧ true = true) ∧ true = true) ∧ true = true) ∧ true = true) ∧ true = true) ∧ true = true) ∧ true = true) ∧ true = true) ∧ true = true) ∧ false = false) ∧ false = false) ∧ false = false) ∧ false = false) ∧ false = false) ∧ decide (IntKind.u32.wrap ((256 : Int) + IntKind.u32.wrap m) ≥ (256 : Int)) = true) ∧ decide (IntKind.u32.wrap ((256 : Int) + IntKind.u32.wrap m) ≥ (256 : Int)) = true) ∧ decide (IntKind.u32.wrap ((256 : Int) + IntKind.u32.wrap m) ≥ (256 : Int)) = true) ∧ decide (IntKind.u32.wrap ((256 : Int) + IntKind.u32.wrap m) ≥ (256 : Int)) = true) ∧ decide (IntKind.u32.wrap ((256 : Int) + IntKind.u32.wrap m) ≥ (256 : Int)) = true) ∧ (!decide (IntKind.u64.wrap (IntKind.u64.wrap (IntKind.u32.wrap ((256 : Int) + IntKind.u32.wrap m)) + (4 : Int)) ≤ (320 : Int))) = false) ∧ (!decide (IntKind.u64.wrap (IntKind.u64.wrap (IntKind.u32.wrap ((256 : Int) + IntKind.u32.wrap m)) + (4 : Int)) ≤ (320 : Int))) = false) ∧ (!decide (IntKind.u64.wrap (IntKind.u64.wrap (IntKind.u32.wrap ((256 : Int) + IntKind.u32.wrap m)) + (4 : Int)) ≤ (320 : Int))) = false) ∧ (!decide (IntKind.u64.wrap (IntKind.u64.wrap (IntKind.u32.wrap ((256 : Int) + IntKind.u32.wrap m)) + (4 : Int)) ≤ (320 : Int))) = false) ∧ (!decide (IntKind.u64.wrap (IntKind.u64.wrap (IntKind.u32.wrap ((256 : Int) + IntKind.u32.wrap m)) + (4 : Int)) ≤ (320 : Int))) = false) ∧ (!decide (IntKind.u64.wrap (IntKind.u64.wrap (IntKind.u32.wrap ((256 : Int) + IntKind.u32.wrap m)) + (4 : Int)) ≤ (320 : Int))) = false) ∧ (!decide (IntKind.u64.wrap (IntKind.u64.wrap (IntKind.u32.wrap ((256 : Int) + IntKind.u32.wrap m)) + (4 : Int)) ≤ (320 : Int))) = false) ∧ false = false) ∧ false = false) ∧ false = false) ∧ false = false) ∧ false = false) ∧ false = false) ∧ false = false) ∧ (!decide (IntKind.u64.wrap (IntKind.u64.wrap (IntKind.u32.wrap ((256 : Int) + IntKind.u32.wrap m)) + (4 : Int)) ≤ (320 : Int))) = false) ∧ (!decide (IntKind.u64.wrap (IntKind.u64.wrap (IntKind.u32.wrap ((256 : Int) + IntKind.u32.wrap m)) + (4 : Int)) ≤ (320 : Int))) = false) ∧ (!decide (IntKind.u64.wrap (IntKind.u64.wrap (IntKind.u32.wrap ((256 : Int) + IntKind.u32.wrap m)) + (4 : Int)) ≤ (320 : Int))) = false) ∧ decide (IntKind.u64.wrap (IntKind.u64.wrap (IntKind.u32.wrap ((256 : Int) + IntKind.u32.wrap m)) + (4 : Int)) > (4096 : Int)) = false) ∧ ((IntKind.u32.wrap ((256 : Int) + IntKind.u32.wrap m)).tmod (4 : Int) != (0 : Int)) = false) ∧ false = false) ∧ false = false) ∧ false = false) ∧ false = false) ∧ false = false) ∧ false = false) ∧ false = false) ∧ false = false) ∧ false = false) ∧ false = false) ∧ false = false) ∧ false = false) ∧ true = true) ∧ true = true) ∧ true = true) ∧ true = true) ∧ true = true) ∧ true = true) ∧ true = true) ∧ true = true) ∧ true = true) ∧ true = true) ∧ true = true) ∧ true = true) ∧ true = true) ∧ true = true) ∧ true = true) ∧ true = true) ∧ true = true) ∧ true = true) ∧ true = true) ∧ true = true) ∧ true = true) ∧ true = true) ∧ (!decide (IntKind.i64.wrap (IntKind.u32.wrap ((256 : Int) + IntKind.u32.wrap m)) ≤ (4092 : Int))) = false) ∧ false = false) ∧ false = false) ∧ false = false) ∧ false = false) ∧ false = false) ∧ false = false) ∧ false = false) ∧ false = false) ∧ false = false) ∧ decide (IntKind.i64.wrap (IntKind.u32.wrap ((256 : Int) + IntKind.u32.wrap m)) < (0 : Int)) = false) ∧ decide (IntKind.i64.wrap (IntKind.u32.wrap ((256 : Int) + IntKind.u32.wrap m)) < (0 : Int)) = false) ∧ decide (IntKind.i64.wrap (IntKind.u32.wrap ((256 : Int) + IntKind.u32.wrap m)) < (0 : Int)) = false) ∧ decide (IntKind.i64.wrap (IntKind.u32.wrap ((256 : Int) + IntKind.u32.wrap m)) < (0 : Int)) = false) ∧ decide (IntKind.i64.wrap (IntKind.u32.wrap ((256 : Int) + IntKind.u32.wrap m)) < (0 : Int)) = false) ∧ decide (IntKind.i64.wrap (IntKind.u32.wrap ((256 : Int) + IntKind.u32.wrap m)) < (0 : Int)) = false) ∧ decide (IntKind.i64.wrap (IntKind.u32.wrap ((256 : Int) + IntKind.u32.wrap m)) < (0 : Int)) = false) ∧ decide (IntKind.i64.wrap (IntKind.u32.wrap ((256 : Int) + IntKind.u32.wrap m)) > (4092 : Int)) = false else False else False else False) ∧ (IntKind.i64.wrap (IntKind.u32.wrap ((256 : Int) + IntKind.u32.wrap m))).toNat.blt (IntKind.i64.wrap (IntKind.i64.wrap (IntKind.u32.wrap ((256 : Int) + IntKind.u32.wrap m)) + (4 : Int))).toNat = true) ∧ true = true else False else False else False else False else False else False else False else False) ∧ false = false) := by kernel_rfl
end Go.Proofs.YtagacmljbgkmoaaGreatDoor
namespace Go.Proofs.YtagacmljbgkmoaaGreatDoor
set_option linter.unusedVariables false
set_option linter.unusedSimpArgs false
set_option linter.unusedSectionVars false
open Go.RowKit
open Sy
theorem leB_len : ∀ (w n : Nat), (leB w n).length = w
  | 0, _ => rfl
  | w + 1, n => by simp [leB, leB_len w]
def patB (i : Nat) (bs zs : List UInt8) : List UInt8 := zs.take i ++ bs ++ zs.drop (i + bs.length)
theorem patB_len (i : Nat) (bs zs : List UInt8) (h : i + bs.length ≤ zs.length) : (patB i bs zs).length = zs.length := by
  simp [patB]; omega
theorem patB_get (i : Nat) (bs zs : List UInt8) (h : i + bs.length ≤ zs.length) (j : Nat) : (patB i bs zs)[j]? = if i ≤ j ∧ j < i + bs.length then bs[j - i]? else zs[j]? := by
  unfold patB
  by_cases h1 : j < i
  · rw [if_neg (by omega), List.append_assoc, List.getElem?_append_left (by simp; omega), List.getElem?_take_of_lt h1]
  · by_cases h2 : j < i + bs.length
    · rw [if_pos ⟨by omega, h2⟩, List.append_assoc, List.getElem?_append_right (by simp; omega), List.getElem?_append_left (by simp; omega)]
      congr 1; simp; omega
    · rw [if_neg (by omega), List.getElem?_append_right (by simp; omega), List.getElem?_drop]
      congr 1; simp; omega
theorem setAt_u8s (i : Nat) (bs zs : List UInt8) (h : i + bs.length ≤ zs.length) : setAt i (u8s bs) (u8s zs) = u8s (patB i bs zs) := by
  apply List.ext_getElem?
  intro j
  rw [setAt_get _ _ _ _ (by simpa [u8s] using h)]
  simp only [u8s, List.getElem?_map, List.length_map]
  rw [patB_get i bs zs h]
  split <;> rfl
theorem setAt_u8s' (i : Nat) (bs zs : List UInt8) (vs : List Value) (hv : vs = u8s bs) (h : i + bs.length ≤ zs.length) : setAt i vs (u8s zs) = u8s (patB i bs zs) := by rw [hv]; exact setAt_u8s i bs zs h
theorem u8s_has (a : List UInt8) (n : Nat) : hasN n (u8s a) = decide (n ≤ a.length) := by
  rw [Bool.eq_iff_iff, hasN_iff]; simp [u8s]
theorem u8s_like (bs : List UInt8) (i : Nat) (b : Int) : isLikeL [.int .u8 b] (u8s bs) i = decide (i < bs.length) := by
  simp only [isLikeL, Bool.and_true]
  unfold u8s
  rw [getD_map _ _ (0 : UInt8)]
  by_cases h : i < bs.length
  · rw [if_pos h]; simp [h, isLike]
  · rw [if_neg h]; simp [h]; rfl
theorem u8s_at (bs : List UInt8) (i : Nat) : intOf' (getD' undef (u8s bs) i) = ((bs.getD i 0).toNat : Int) := by
  unfold u8s
  rw [getD_map _ _ (0 : UInt8)]
  by_cases h : i < bs.length
  · rw [if_pos h]; rfl
  · rw [if_neg h]; simp [List.getD, List.getElem?_eq_none (Nat.le_of_not_lt h)]; rfl
theorem put1 (s : List UInt8) (v : Int) : obs (evF Tryz.prog noBase noLoop 100 10 86 [Value.string { data := { toList := s : Array UInt8 } : ByteArray }, Value.int IntKind.i64 (1 : Int), Value.int IntKind.u32 v] (stT [])) = some (Value.string { data := { toList := s ++ [UInt8.ofNat (IntKind.u8.wrap (v.fdiv (1 : Int))).toNat] : Array UInt8 } : ByteArray }, bif (lenT s + 1).blt 9223372036854775808 then True else False) := by kernel_rfl
theorem put2 (s : List UInt8) (v : Int) : obs (evF Tryz.prog noBase noLoop 100 10 86 [Value.string { data := { toList := s : Array UInt8 } : ByteArray }, Value.int IntKind.i64 (2 : Int), Value.int IntKind.u32 v] (stT [])) = some (Value.string { data := { toList := s ++ [UInt8.ofNat (IntKind.u8.wrap (v.fdiv (1 : Int))).toNat, UInt8.ofNat (IntKind.u8.wrap (v.fdiv (256 : Int))).toNat] : Array UInt8 } : ByteArray }, bif (lenT s + 2).blt 9223372036854775808 then True else False) := by kernel_rfl
theorem put4 (s : List UInt8) (v : Int) : obs (evF Tryz.prog noBase noLoop 100 10 86 [Value.string { data := { toList := s : Array UInt8 } : ByteArray }, Value.int IntKind.i64 (4 : Int), Value.int IntKind.u32 v] (stT [])) = some (Value.string { data := { toList := s ++ [UInt8.ofNat (IntKind.u8.wrap (v.fdiv (1 : Int))).toNat, UInt8.ofNat (IntKind.u8.wrap (v.fdiv (256 : Int))).toNat, UInt8.ofNat (IntKind.u8.wrap (v.fdiv (65536 : Int))).toNat, UInt8.ofNat (IntKind.u8.wrap (v.fdiv (16777216 : Int))).toNat] : Array UInt8 } : ByteArray }, bif (lenT s + 4).blt 9223372036854775808 then True else False) := by kernel_rfl
theorem fd (n k : Nat) : (n : Int).fdiv (k : Int) = ((n / k : Nat) : Int) := by
  rw [Int.fdiv_eq_ediv_of_nonneg _ (by omega)]; rfl
theorem td (n k : Nat) : (n : Int).tdiv (k : Int) = ((n / k : Nat) : Int) := (Int.ofNat_tdiv n k).symm
theorem tm (n k : Nat) : (n : Int).tmod (k : Int) = ((n % k : Nat) : Int) := (Int.ofNat_tmod n k).symm
theorem w8 (n : Nat) : (IntKind.u8.wrap (n : Int)).toNat = n % 256 := by rw [IntKind.wrap_u8]; omega
theorem w32 (n : Nat) (h : n < 4294967296) : IntKind.u32.wrap (n : Int) = (n : Int) := by simp only [IntKind.wrap_u32]; omega
theorem fd0 (n : Nat) : (n : Int).fdiv (1 : Int) = ((n / 1 : Nat) : Int) := fd n 1
theorem fd1 (n : Nat) : (n : Int).fdiv (256 : Int) = ((n / 256 : Nat) : Int) := fd n 256
theorem fd2 (n : Nat) : (n : Int).fdiv (65536 : Int) = ((n / 65536 : Nat) : Int) := fd n 65536
theorem fd3 (n : Nat) : (n : Int).fdiv (16777216 : Int) = ((n / 16777216 : Nat) : Int) := fd n 16777216
theorem td1 (n : Nat) : (n : Int).tdiv (256 : Int) = ((n / 256 : Nat) : Int) := td n 256
theorem tm1 (n : Nat) : (n : Int).tmod (256 : Int) = ((n % 256 : Nat) : Int) := tm n 256
theorem dd2 (n : Nat) : n / 65536 = n / 256 / 256 := by omega
theorem dd3 (n : Nat) : n / 16777216 = n / 256 / 256 / 256 := by omega
theorem put_con (w v : Int) (h : putOk w v) : ConOk Tryz.prog 86 3 (putC w v) := by
  obtain ⟨hw, h1, h2⟩ := h
  obtain ⟨n, rfl⟩ := Int.eq_ofNat_of_zero_le h1
  have hn : n < 4294967296 := by omega
  have m1 := w32 (n / 256) (by omega)
  have m2 := w32 (n / 256 / 256) (by omega)
  have m3 := w32 (n / 256 / 256 / 256) (by omega)
  rcases hw with rfl | rfl | rfl
  · have hr := put1 [] (n : Int)
    simp only [fd0, fd1, fd2, fd3, td1, tm1, m1, m2, m3, w8, dd2, dd3, Nat.div_one, Nat.mod_mod, List.append_assoc, List.cons_append, List.nil_append] at hr
    exact pure_run (run_ok c_names (noBase_ok _) (noLoop_ok _) 10) (v := .string ⟨⟨leB 1 n⟩⟩) hr (by
      simp only [lenT_eq, List.length_append, List.length_cons, List.length_nil]
      repeat (first | exact trivial | refine bif_true (blt_yes (by omega)) ?_)) rfl rfl
  · have hr := put2 [] (n : Int)
    simp only [fd0, fd1, fd2, fd3, td1, tm1, m1, m2, m3, w8, dd2, dd3, Nat.div_one, Nat.mod_mod, List.append_assoc, List.cons_append, List.nil_append] at hr
    exact pure_run (run_ok c_names (noBase_ok _) (noLoop_ok _) 10) (v := .string ⟨⟨leB 2 n⟩⟩) hr (by
      simp only [lenT_eq, List.length_append, List.length_cons, List.length_nil]
      repeat (first | exact trivial | refine bif_true (blt_yes (by omega)) ?_)) rfl rfl
  · have hr := put4 [] (n : Int)
    simp only [fd0, fd1, fd2, fd3, td1, tm1, m1, m2, m3, w8, dd2, dd3, Nat.div_one, Nat.mod_mod, List.append_assoc, List.cons_append, List.nil_append] at hr
    exact pure_run (run_ok c_names (noBase_ok _) (noLoop_ok _) 10) (v := .string ⟨⟨leB 4 n⟩⟩) hr (by
      simp only [lenT_eq, List.length_append, List.length_cons, List.length_nil]
      repeat (first | exact trivial | refine bif_true (blt_yes (by omega)) ?_)) rfl rfl
def KClr (q : Int) : Prop := KRun 158 (clrC q (q + 1))
theorem clr_16 : KClr 16 = True := by kernel_rfl
theorem clr_17 : KClr 17 = True := by kernel_rfl
theorem clr_18 : KClr 18 = True := by kernel_rfl
theorem clr_19 : KClr 19 = True := by kernel_rfl
theorem clr_con (x y : Int) (h : clrOk x y) : ConOk Tryz.prog 158 3 (clrC x y) := by
  obtain ⟨rfl, h1, h2⟩ := h
  have : x = 16 ∨ x = 17 ∨ x = 18 ∨ x = 19 := by omega
  rcases this with rfl | rfl | rfl | rfl
  · exact (kRun_ok clr_16).1
  · exact (kRun_ok clr_17).1
  · exact (kRun_ok clr_18).1
  · exact (kRun_ok clr_19).1
theorem selMv_ok : SelOk Tryz.prog 3 selMv := by
  intro f args s c ρ q h hq
  unfold selMv at h
  cases h1 : Nat.beq f 86 <;> rw [h1] at h
  · simp only [cond_false] at h
    obtain ⟨h2, h3⟩ := bif_some h
    have h2 := Nat.eq_of_beq_eq_true h2
    subst h2
    split at h3
    · cases h3; exact clr_con _ _ hq
    · cases h3
  · have h2 := Nat.eq_of_beq_eq_true h1
    subst h2
    simp only [cond_true] at h
    split at h
    · cases h; exact put_con _ _ hq
    · cases h
end Go.Proofs.YtagacmljbgkmoaaGreatDoor
namespace Go.Proofs.YtagacmljbgkmoaaGreatDoor
set_option linter.unusedVariables false
set_option linter.unusedSimpArgs false
set_option linter.unusedSectionVars false
open Go.RowKit
open Sy
set_option maxRecDepth 100000
theorem mw (M : Nat) (h : M < 64) : IntKind.u32.wrap ((256 : Int) + IntKind.u32.wrap (M : Int)) = ((256 + M : Nat) : Int) := by
  simp only [IntKind.wrap_u32]; omega
theorem mi (n : Nat) (h : n < 100000) : IntKind.i64.wrap (n : Int) = (n : Int) := wrap_i64 (by omega) (by omega)
theorem mu64 (n : Nat) (h : n < 100000) : IntKind.u64.wrap (n : Int) = (n : Int) := by
  simp only [IntKind.wrap_u64]; omega
theorem ma1 (n : Nat) : ((n : Nat) : Int) + (1 : Int) = ((n + 1 : Nat) : Int) := by omega
theorem ma2 (n : Nat) : ((n : Nat) : Int) + (2 : Int) = ((n + 2 : Nat) : Int) := by omega
theorem ma4 (n : Nat) : ((n : Nat) : Int) + (4 : Int) = ((n + 4 : Nat) : Int) := by omega
theorem ms1 (n : Nat) (h : 1 ≤ n) : ((n : Nat) : Int) - (1 : Int) = ((n - 1 : Nat) : Int) := by omega
theorem mt16 (n : Nat) : ((n : Nat) : Int).tdiv (16 : Int) = ((n / 16 : Nat) : Int) := (Int.ofNat_tdiv n 16).symm
theorem mm4 (n : Nat) : ((n : Nat) : Int).tmod (4 : Int) = ((n % 4 : Nat) : Int) := (Int.ofNat_tmod n 4).symm
theorem mm2 (n : Nat) : ((n : Nat) : Int).tmod (2 : Int) = ((n % 2 : Nat) : Int) := (Int.ofNat_tmod n 2).symm
theorem mm1 (n : Nat) : ((n : Nat) : Int).tmod (1 : Int) = ((n % 1 : Nat) : Int) := (Int.ofNat_tmod n 1).symm
theorem mmin (k n : Nat) (h : k ≤ n) : Nat.min k n = k := Nat.min_eq_left h
theorem blt_t {a b : Nat} (h : a < b) : Nat.blt a b = true := blt_yes h
theorem beq_t {a b : Nat} (h : a = b) : Nat.beq a b = true := by rw [h, Nat.beq_refl]
theorem arZ_flat (zs : List UInt8) : ∀ x ∈ arZ true zs, x.2.op ≠ none → ∀ v ∈ x.2.cells, flat0 v = true := fun x hx hne => by
  simp only [arZ, List.mem_cons, List.not_mem_nil, or_false] at hx
  rcases hx with rfl | rfl | rfl | rfl
  · exact absurd rfl hne
  · exact absurd rfl hne
  · exact z_flat
  · exact u8s_flat zs
def stC (op : Int) (bs : List UInt8) (v m : Int) (zs : List UInt8) : Con := ⟨[frM 0 v, inM op 5 m, aPtr], 68, arZ true zs ++ rowsH, arLo, .tuple ⟨[frM 4 v, .int .i64 0]⟩, 68, arZ true (patB (256 + m.toNat) bs zs), arLo⟩
theorem arCell {q : Nat → Bool} (h : ∀ l, l < 68 → q l = true) : (∀ v ∈ ([.pointer (some ⟨66, 0, none⟩), .slice (some ⟨64, 0, none⟩) 4096 (big + 64)] : List Value), okV q 3 v = true) ∧ ∀ v ∈ ([.int .i64 256, .slice (some ⟨65, 0, none⟩) 4 (big + 65)] : List Value), okV q 3 v = true := by
  have h4 := h 64 (by omega)
  have h5 := h 65 (by omega)
  have h6 := h 66 (by omega)
  constructor <;> intro v hv <;> simp only [List.mem_cons, List.not_mem_nil, or_false] at hv <;> rcases hv with rfl | rfl <;> simp [okV, bndA, h4, h5, h6, flat0]
theorem rows_flat : ∀ v ∈ rowsC, flat0 v = true := fun v hv => List.all_eq_true.1 (show rowsC.all flat0 = true by kernel_rfl) v hv
theorem arZ_okH {q : Nat → Bool} (h : ∀ l, l < 68 → q l = true) (rw : Bool) (zs : List UInt8) : OkH q (arZ rw zs ++ rowsH) :=
  ⟨⟨h 67 (by omega), rfl, fun v hv => okV_bnd 3 v ((arCell h).1 v hv)⟩, ⟨h 66 (by omega), rfl, fun v hv => okV_bnd 3 v ((arCell h).2 v hv)⟩, ⟨h 65 (by omega), h 65 (by omega), flat_bnd z_flat⟩, ⟨h 64 (by omega), h 64 (by omega), flat_bnd (u8s_flat zs)⟩, ⟨h _ (by show (0 : Nat) < 68; omega), rfl, flat_bnd rows_flat⟩, trivial⟩
theorem arZ_okH' {q : Nat → Bool} (h : ∀ l, l < 68 → q l = true) (rw : Bool) (zs : List UInt8) : OkH q (arZ rw zs) :=
  ⟨⟨h 67 (by omega), rfl, fun v hv => okV_bnd 3 v ((arCell h).1 v hv)⟩, ⟨h 66 (by omega), rfl, fun v hv => okV_bnd 3 v ((arCell h).2 v hv)⟩, ⟨h 65 (by omega), h 65 (by omega), flat_bnd z_flat⟩, ⟨h 64 (by omega), h 64 (by omega), flat_bnd (u8s_flat zs)⟩, trivial⟩
theorem arZ_okV (rw : Bool) (zs : List UInt8) : ∀ x ∈ arZ rw zs, ∀ v ∈ x.2.cells, okV (fun l => Nat.blt l 68) 3 v = true := fun x hx v hv => by
  have h : ∀ l, l < 68 → (fun l => Nat.blt l 68) l = true := fun l hl => blt_yes hl
  simp only [arZ, List.mem_cons, List.not_mem_nil, or_false] at hx
  rcases hx with rfl | rfl | rfl | rfl
  · exact (arCell h).1 v hv
  · exact (arCell h).2 v hv
  · exact okV_flat0 (z_flat v hv) 3
  · exact okV_flat0 (u8s_flat zs v hv) 3
theorem arZ_seen {s' : Sy.St} (zs : List UInt8) (cs : List Value) (h67 : Sy.look s'.h 67 = some ⟨true, none, [.pointer (some ⟨66, 0, none⟩), .slice (some ⟨64, 0, none⟩) 4096 (big + 64)], none⟩) (h66 : Sy.look s'.h 66 = some ⟨true, none, [.int .i64 256, .slice (some ⟨65, 0, none⟩) 4 (big + 65)], none⟩)
    (h65 : Sy.look s'.h 65 = some ⟨true, some (65, 1), z256, none⟩) (h64 : Sy.look s'.h 64 = some ⟨true, some (64, 1), cs, none⟩) (hc : cs = u8s zs) : SeenH 3 (fun l => Nat.blt l 68) id s'.h (arZ true zs) := by
  have h : ∀ l, l < 68 → (fun l => Nat.blt l 68) l = true := fun l hl => blt_yes hl
  refine ⟨⟨rfl, List.all_eq_true.2 (arCell h).1, rfl, ?_⟩, ⟨rfl, List.all_eq_true.2 (arCell h).2, rfl, ?_⟩, ⟨rfl, flat_all z_flat, rfl, ?_⟩, ⟨rfl, flat_all (u8s_flat zs), rfl, ?_⟩, trivial⟩
  · simp only [id, h67]; exact ⟨rfl, rfl, trivial, by rw [List.map_congr_left (fun v _ => rnV_id 3 v)]; simp⟩
  · simp only [id, h66]; exact ⟨rfl, rfl, trivial, by rw [List.map_congr_left (fun v _ => rnV_id 3 v)]; simp⟩
  · simp only [id, h65]; exact ⟨rfl, rfl, trivial, by rw [List.map_congr_left (fun v _ => rnV_id 3 v)]; simp⟩
  · simp only [id, h64]; exact ⟨rfl, rfl, trivial, by rw [List.map_congr_left (fun v _ => rnV_id 3 v), hc]; simp⟩
theorem st_wf (op v m : Int) (bs zs : List UInt8) : (stC op bs v m zs).Wf 3 := by
  have h : ∀ l, l < 68 → (fun l => Nat.blt l 68) l = true := fun l hl => blt_yes hl
  exact ⟨by show 64 ≤ 68; omega, Nat.le_refl _, arZ_okH h true zs, rfl, rfl, rfl, rfl, rfl, arZ_okV true _⟩
theorem keeps_id (l : Nat) (h : l < 68) : keeps 68 68 id (fun l => Nat.blt l 68) l = true := by
  unfold keeps
  simp only [blt_yes h, cond_true, id, Nat.beq_refl, Bool.and_self, Bool.or_true]
theorem ar_ends {op v m : Int} {bs zs : List UInt8} {s' : Sy.St} {u : Value} (hu : u = .tuple ⟨[frM 4 v, .int .i64 0]⟩) (h1 : SeenH 3 (fun l => Nat.blt l 68) id s'.h (arZ true (patB (256 + m.toNat) bs zs))) (h2 : SeenO (fun l => Nat.blt l 68) id s'.lo arLo) :
    (stC op bs v m zs).Ends 3 (fun l => Nat.blt l 68) id u s' :=
  ⟨fun _ _ => rfl, h1, rfl, h2, ⟨rfl, by rw [rnV_id]; exact hu⟩, rfl, arZ_okH' keeps_id true _, rfl, okV_bnd 3 _ rfl, fun x _ _ => .inl rfl⟩
theorem st_0 (V M : Nat) (zs : List UInt8) (hv : V < 4294967296) (hm : M < 64) (h4 : M % 1 = 0) (hz : zs.length = 4096) : ConOk Tryz.prog 13 3 (stC 20 (leB 1 V) V M zs) ∧ FlatC (stC 20 (leB 1 V) V M zs) := by
  have hr := mv_s0 (V : Int) (M : Int) zs
  simp (disch := omega) only [mw M hm, mi, mu64, ma1, ma2, ma4, ms1, mt16, mm1, mm2, mm4, Int.toNat_natCast, mmin, Nat.zero_add, Nat.mul_one] at hr
  refine ⟨conOk_run (run_ok (L := 100) c_names (baseC_ok selMv_ok) (noLoop_ok _) 40) (st_wf 20 V M (leB 1 V) zs) hr ?_ (p := fun l => Nat.blt l 68) (σ := id) (ar_ends rfl (arZ_seen _ _ rfl rfl rfl rfl (setAt_u8s' _ _ _ _ rfl (by rw [leB_len, hz]; omega))) ⟨⟨rfl, Nat.le_refl _⟩, ⟨rfl, Nat.le_refl _⟩, trivial⟩), ⟨arZ_flat _⟩⟩
  simp only [lenT_eq, List.length_cons, List.length_nil, List.take_succ_cons, List.take_zero, u8s_has, hz]
  simp (disch := omega) only [beq_t, blt_t]
  simp (disch := omega) only [decide_eq_true, decide_eq_false, oneC, flat0, hasN, List.all_cons, List.all_nil, Bool.and_self, Bool.true_and, Bool.and_true, Bool.not_true, Bool.not_false, cond_true, and_true, true_and, and_self]
  have e0 : (256 + M) % 1 = 0 := by omega
  refine ⟨(show _ ∧ _ from ⟨?_, ?_⟩), ⟨?_, ?_, ?_⟩, ?_⟩
  · rw [e0]; rfl
  · exact ⟨by simp, by omega, by omega⟩
  all_goals omega
theorem st_1 (V M : Nat) (zs : List UInt8) (hv : V < 4294967296) (hm : M < 64) (h4 : M % 2 = 0) (hz : zs.length = 4096) : ConOk Tryz.prog 13 3 (stC 21 (leB 2 V) V M zs) ∧ FlatC (stC 21 (leB 2 V) V M zs) := by
  have hr := mv_s1 (V : Int) (M : Int) zs
  simp (disch := omega) only [mw M hm, mi, mu64, ma1, ma2, ma4, ms1, mt16, mm1, mm2, mm4, Int.toNat_natCast, mmin, Nat.zero_add, Nat.mul_one] at hr
  refine ⟨conOk_run (run_ok (L := 100) c_names (baseC_ok selMv_ok) (noLoop_ok _) 40) (st_wf 21 V M (leB 2 V) zs) hr ?_ (p := fun l => Nat.blt l 68) (σ := id) (ar_ends rfl (arZ_seen _ _ rfl rfl rfl rfl (setAt_u8s' _ _ _ _ rfl (by rw [leB_len, hz]; omega))) ⟨⟨rfl, Nat.le_refl _⟩, ⟨rfl, Nat.le_refl _⟩, trivial⟩), ⟨arZ_flat _⟩⟩
  simp only [lenT_eq, List.length_cons, List.length_nil, List.take_succ_cons, List.take_zero, u8s_has, hz]
  simp (disch := omega) only [beq_t, blt_t]
  simp (disch := omega) only [decide_eq_true, decide_eq_false, oneC, flat0, hasN, List.all_cons, List.all_nil, Bool.and_self, Bool.true_and, Bool.and_true, Bool.not_true, Bool.not_false, cond_true, and_true, true_and, and_self]
  have e0 : (256 + M) % 2 = 0 := by omega
  refine ⟨(show _ ∧ _ from ⟨?_, ?_⟩), ⟨?_, ?_, ?_⟩, ?_⟩
  · rw [e0]; rfl
  · exact ⟨by simp, by omega, by omega⟩
  all_goals omega
theorem st_2 (V M : Nat) (zs : List UInt8) (hv : V < 4294967296) (hm : M < 64) (h4 : M % 4 = 0) (hz : zs.length = 4096) : ConOk Tryz.prog 13 3 (stC 22 (leB 4 V) V M zs) ∧ FlatC (stC 22 (leB 4 V) V M zs) := by
  have hr := mv_s2 (V : Int) (M : Int) zs
  simp (disch := omega) only [mw M hm, mi, mu64, ma1, ma2, ma4, ms1, mt16, mm1, mm2, mm4, Int.toNat_natCast, mmin, Nat.zero_add, Nat.mul_one] at hr
  refine ⟨conOk_run (run_ok (L := 100) c_names (baseC_ok selMv_ok) (noLoop_ok _) 40) (st_wf 22 V M (leB 4 V) zs) hr ?_ (p := fun l => Nat.blt l 68) (σ := id) (ar_ends rfl (arZ_seen _ _ rfl rfl rfl rfl (setAt_u8s' _ _ _ _ rfl (by rw [leB_len, hz]; omega))) ⟨⟨rfl, Nat.le_refl _⟩, ⟨rfl, Nat.le_refl _⟩, trivial⟩), ⟨arZ_flat _⟩⟩
  simp only [lenT_eq, List.length_cons, List.length_nil, List.take_succ_cons, List.take_zero, u8s_has, hz]
  simp (disch := omega) only [beq_t, blt_t]
  simp (disch := omega) only [decide_eq_true, decide_eq_false, oneC, flat0, hasN, List.all_cons, List.all_nil, Bool.and_self, Bool.true_and, Bool.and_true, Bool.not_true, Bool.not_false, cond_true, and_true, true_and, and_self]
  have e0 : (256 + M) % 4 = 0 := by omega
  refine ⟨(show _ ∧ _ from ⟨?_, ?_⟩), ⟨?_, ?_, ?_⟩, ?_⟩
  · rw [e0]; rfl
  · exact ⟨by simp, by omega, by omega⟩
  all_goals omega
end Go.Proofs.YtagacmljbgkmoaaGreatDoor
namespace Go.Proofs.YtagacmljbgkmoaaGreatDoor
set_option linter.unusedVariables false
set_option linter.unusedSimpArgs false
set_option linter.unusedSectionVars false
open Go.RowKit
open Sy
set_option maxRecDepth 100000
theorem or_hi (x y k : Nat) (hx : x % 2 ^ k = 0) (hy : y < 2 ^ k) : x ||| y = x + y := by
  have h := Nat.two_pow_add_eq_or_of_lt hy (x / 2 ^ k)
  have h1 : 2 ^ k * (x / 2 ^ k) = x := Nat.mul_div_cancel' (Nat.dvd_of_mod_eq_zero hx)
  rw [h1] at h
  exact h.symm
theorem bits_or (x y k : Nat) (hx : x % 2 ^ k = 0) (hy : y < 2 ^ k) (h : x + y < 4294967296) : bits .or .u32 (x : Int) (y : Int) = ((x + y : Nat) : Int) := by
  show IntKind.u32.wrap ((BitVec.ofInt 32 (x : Int) ||| BitVec.ofInt 32 (y : Int)).toNat : Int) = _
  rw [BitVec.toNat_or, BitVec.ofInt_natCast, BitVec.ofInt_natCast, BitVec.toNat_ofNat, BitVec.toNat_ofNat, Nat.mod_eq_of_lt (by omega), Nat.mod_eq_of_lt (by omega), or_hi x y k hx hy, w32 _ h]
theorem bits_0 (y : Nat) (h : y < 4294967296) : bits .or .u32 (0 : Int) (y : Int) = (y : Int) := by
  have := bits_or 0 y 32 (by omega) (by omega) (by omega)
  simpa using this
def byN (zs : List UInt8) (i : Nat) : Nat := (zs.getD i 0).toNat
theorem byN_lt (zs : List UInt8) (i : Nat) : byN zs i < 256 := (zs.getD i 0).toNat_lt
theorem by_at (bs : List UInt8) (i : Nat) : intOf' (getD' undef (u8s bs) i) = (byN bs i : Int) := u8s_at bs i
def frN (v r : Int) : Value := frV [(1, cpV 256 0 256 320 27 0 0 true), (5, cpV v 0 0 0 0 0 0 false), (6, cpV r 0 0 0 0 0 0 false), (16, cpV 8 0 0 64 5 0 0 true)]
def ldC (op r v m : Int) (zs : List UInt8) : Con := ⟨[frM 4 v, inM op 6 m, aPtr], 68, arZ false zs ++ rowsH, arLo, .tuple ⟨[frN v r, .int .i64 0]⟩, 68, [], []⟩
theorem ld_wf (op r v m : Int) (zs : List UInt8) : (ldC op r v m zs).Wf 3 := by
  have h : ∀ l, l < 68 → (fun l => Nat.blt l 68) l = true := fun l hl => blt_yes hl
  exact ⟨by show 64 ≤ 68; omega, Nat.le_refl _, arZ_okH h false zs, rfl, rfl, rfl, rfl, rfl, fun x hx => by cases hx⟩
theorem ld_run {op r v m : Int} {zs : List UInt8} {T : List (Nat × Bool)} {q : Prop} (h : obs (evF Tryz.prog (baseC 3 selMv) noLoop 100 40 13 [frM 4 v, inM op 6 m, aPtr] ⟨68, arZ false zs ++ rowsH, arLo, 0, T, 0, True⟩) = some (.tuple ⟨[frN v r, .int .i64 0]⟩, q)) (hq : q) :
    ConOk Tryz.prog 13 3 (ldC op r v m zs) ∧ FlatC (ldC op r v m zs) := by
  unfold obs at h
  obtain ⟨⟨v', s'⟩, h1, h2⟩ := Option.map_eq_some_iff.1 h
  cases h2
  refine ⟨conOk_run (run_ok (L := 100) c_names (baseC_ok selMv_ok) (noLoop_ok _) 40) (ld_wf op r v m zs) h1 hq (p := fun l => Nat.blt l 68) (σ := id) ?_, ⟨fun x hx => by cases hx⟩⟩
  exact ⟨fun _ _ => rfl, trivial, rfl, trivial, ⟨rfl, by rw [rnV_id]; rfl⟩, rfl, trivial, rfl, okV_bnd 3 _ rfl, fun x hx => by cases hx⟩
theorem ld_0 (V M : Nat) (zs : List UInt8) (hm : M < 64) (h4 : M % 1 = 0) (hz : zs.length = 4096) : ConOk Tryz.prog 13 3 (ldC 17 ((byN zs (256 + M) : Nat) : Int) V M zs) ∧ FlatC (ldC 17 ((byN zs (256 + M) : Nat) : Int) V M zs) := by
  have hr := mv_l0 (V : Int) (M : Int) zs
  have z0 := byN_lt zs (256 + M + 0)
  have v0 := w32 (byN zs (256 + M + 0)) (by omega)
  have z1 := byN_lt zs (256 + M + 1)
  have v1 := w32 (byN zs (256 + M + 1)) (by omega)
  have z2 := byN_lt zs (256 + M + 2)
  have v2 := w32 (byN zs (256 + M + 2)) (by omega)
  have z3 := byN_lt zs (256 + M + 3)
  have v3 := w32 (byN zs (256 + M + 3)) (by omega)
  have v0 := w32 (byN zs (256 + M)) (by have := byN_lt zs (256 + M); omega)
  have z0 := byN_lt zs (256 + M)
  have y1 : ((byN zs (256 + M + 1) : Nat) : Int) * 256 = ((byN zs (256 + M + 1) * 256 : Nat) : Int) := by omega
  have y2 : ((byN zs (256 + M + 2) : Nat) : Int) * 65536 = ((byN zs (256 + M + 2) * 65536 : Nat) : Int) := by omega
  have y3 : ((byN zs (256 + M + 3) : Nat) : Int) * 16777216 = ((byN zs (256 + M + 3) * 16777216 : Nat) : Int) := by omega
  have u1 := w32 (byN zs (256 + M + 1) * 256) (by omega)
  have u2 := w32 (byN zs (256 + M + 2) * 65536) (by omega)
  have u3 := w32 (byN zs (256 + M + 3) * 16777216) (by omega)
  have b32 := bits_or (byN zs (256 + M + 3) * 16777216) (byN zs (256 + M + 2) * 65536) 24 (by omega) (by omega) (by omega)
  have b31 := bits_or (byN zs (256 + M + 3) * 16777216 + byN zs (256 + M + 2) * 65536) (byN zs (256 + M + 1) * 256) 16 (by omega) (by omega) (by omega)
  have b30 := bits_or (byN zs (256 + M + 3) * 16777216 + byN zs (256 + M + 2) * 65536 + byN zs (256 + M + 1) * 256) (byN zs (256 + M)) 8 (by omega) (by omega) (by omega)
  have b10 := bits_or (byN zs (256 + M + 1) * 256) (byN zs (256 + M)) 8 (by omega) (by omega) (by omega)
  simp (disch := omega) only [mw M hm, mi, mu64, ma1, ma2, ma4, ms1, mt16, mm1, mm2, mm4, Int.toNat_natCast, mmin, Nat.zero_add, Nat.mul_one, Nat.add_zero, by_at, v0, v1, v2, v3, y1, y2, y3, u1, u2, u3, b32, b31, b30, b10, bits_0] at hr
  refine ld_run hr ?_
  simp (disch := omega) only [u8s_has, u8s_like, hz, decide_eq_true, decide_eq_false, Bool.and_self, Bool.true_and, Bool.and_true, Bool.not_true, Bool.not_false, cond_true, and_true, true_and, and_self]
  have e0 : (256 + M) % 1 = 0 := by omega
  rw [e0]
  refine ⟨rfl, ?_⟩
  exact blt_t (by omega)
theorem ld_1 (V M : Nat) (zs : List UInt8) (hm : M < 64) (h4 : M % 2 = 0) (hz : zs.length = 4096) : ConOk Tryz.prog 13 3 (ldC 18 ((byN zs (256 + M + 1) * 256 + byN zs (256 + M) : Nat) : Int) V M zs) ∧ FlatC (ldC 18 ((byN zs (256 + M + 1) * 256 + byN zs (256 + M) : Nat) : Int) V M zs) := by
  have hr := mv_l1 (V : Int) (M : Int) zs
  have z0 := byN_lt zs (256 + M + 0)
  have v0 := w32 (byN zs (256 + M + 0)) (by omega)
  have z1 := byN_lt zs (256 + M + 1)
  have v1 := w32 (byN zs (256 + M + 1)) (by omega)
  have z2 := byN_lt zs (256 + M + 2)
  have v2 := w32 (byN zs (256 + M + 2)) (by omega)
  have z3 := byN_lt zs (256 + M + 3)
  have v3 := w32 (byN zs (256 + M + 3)) (by omega)
  have v0 := w32 (byN zs (256 + M)) (by have := byN_lt zs (256 + M); omega)
  have z0 := byN_lt zs (256 + M)
  have y1 : ((byN zs (256 + M + 1) : Nat) : Int) * 256 = ((byN zs (256 + M + 1) * 256 : Nat) : Int) := by omega
  have y2 : ((byN zs (256 + M + 2) : Nat) : Int) * 65536 = ((byN zs (256 + M + 2) * 65536 : Nat) : Int) := by omega
  have y3 : ((byN zs (256 + M + 3) : Nat) : Int) * 16777216 = ((byN zs (256 + M + 3) * 16777216 : Nat) : Int) := by omega
  have u1 := w32 (byN zs (256 + M + 1) * 256) (by omega)
  have u2 := w32 (byN zs (256 + M + 2) * 65536) (by omega)
  have u3 := w32 (byN zs (256 + M + 3) * 16777216) (by omega)
  have b32 := bits_or (byN zs (256 + M + 3) * 16777216) (byN zs (256 + M + 2) * 65536) 24 (by omega) (by omega) (by omega)
  have b31 := bits_or (byN zs (256 + M + 3) * 16777216 + byN zs (256 + M + 2) * 65536) (byN zs (256 + M + 1) * 256) 16 (by omega) (by omega) (by omega)
  have b30 := bits_or (byN zs (256 + M + 3) * 16777216 + byN zs (256 + M + 2) * 65536 + byN zs (256 + M + 1) * 256) (byN zs (256 + M)) 8 (by omega) (by omega) (by omega)
  have b10 := bits_or (byN zs (256 + M + 1) * 256) (byN zs (256 + M)) 8 (by omega) (by omega) (by omega)
  simp (disch := omega) only [mw M hm, mi, mu64, ma1, ma2, ma4, ms1, mt16, mm1, mm2, mm4, Int.toNat_natCast, mmin, Nat.zero_add, Nat.mul_one, Nat.add_zero, by_at, v0, v1, v2, v3, y1, y2, y3, u1, u2, u3, b32, b31, b30, b10, bits_0] at hr
  refine ld_run hr ?_
  simp (disch := omega) only [u8s_has, u8s_like, hz, decide_eq_true, decide_eq_false, Bool.and_self, Bool.true_and, Bool.and_true, Bool.not_true, Bool.not_false, cond_true, and_true, true_and, and_self]
  have e0 : (256 + M) % 2 = 0 := by omega
  rw [e0]
  refine ⟨rfl, ?_⟩
  exact blt_t (by omega)
theorem ld_2 (V M : Nat) (zs : List UInt8) (hm : M < 64) (h4 : M % 4 = 0) (hz : zs.length = 4096) : ConOk Tryz.prog 13 3 (ldC 19 ((byN zs (256 + M + 3) * 16777216 + byN zs (256 + M + 2) * 65536 + byN zs (256 + M + 1) * 256 + byN zs (256 + M) : Nat) : Int) V M zs) ∧ FlatC (ldC 19 ((byN zs (256 + M + 3) * 16777216 + byN zs (256 + M + 2) * 65536 + byN zs (256 + M + 1) * 256 + byN zs (256 + M) : Nat) : Int) V M zs) := by
  have hr := mv_l2 (V : Int) (M : Int) zs
  have z0 := byN_lt zs (256 + M + 0)
  have v0 := w32 (byN zs (256 + M + 0)) (by omega)
  have z1 := byN_lt zs (256 + M + 1)
  have v1 := w32 (byN zs (256 + M + 1)) (by omega)
  have z2 := byN_lt zs (256 + M + 2)
  have v2 := w32 (byN zs (256 + M + 2)) (by omega)
  have z3 := byN_lt zs (256 + M + 3)
  have v3 := w32 (byN zs (256 + M + 3)) (by omega)
  have v0 := w32 (byN zs (256 + M)) (by have := byN_lt zs (256 + M); omega)
  have z0 := byN_lt zs (256 + M)
  have y1 : ((byN zs (256 + M + 1) : Nat) : Int) * 256 = ((byN zs (256 + M + 1) * 256 : Nat) : Int) := by omega
  have y2 : ((byN zs (256 + M + 2) : Nat) : Int) * 65536 = ((byN zs (256 + M + 2) * 65536 : Nat) : Int) := by omega
  have y3 : ((byN zs (256 + M + 3) : Nat) : Int) * 16777216 = ((byN zs (256 + M + 3) * 16777216 : Nat) : Int) := by omega
  have u1 := w32 (byN zs (256 + M + 1) * 256) (by omega)
  have u2 := w32 (byN zs (256 + M + 2) * 65536) (by omega)
  have u3 := w32 (byN zs (256 + M + 3) * 16777216) (by omega)
  have b32 := bits_or (byN zs (256 + M + 3) * 16777216) (byN zs (256 + M + 2) * 65536) 24 (by omega) (by omega) (by omega)
  have b31 := bits_or (byN zs (256 + M + 3) * 16777216 + byN zs (256 + M + 2) * 65536) (byN zs (256 + M + 1) * 256) 16 (by omega) (by omega) (by omega)
  have b30 := bits_or (byN zs (256 + M + 3) * 16777216 + byN zs (256 + M + 2) * 65536 + byN zs (256 + M + 1) * 256) (byN zs (256 + M)) 8 (by omega) (by omega) (by omega)
  have b10 := bits_or (byN zs (256 + M + 1) * 256) (byN zs (256 + M)) 8 (by omega) (by omega) (by omega)
  simp (disch := omega) only [mw M hm, mi, mu64, ma1, ma2, ma4, ms1, mt16, mm1, mm2, mm4, Int.toNat_natCast, mmin, Nat.zero_add, Nat.mul_one, Nat.add_zero, by_at, v0, v1, v2, v3, y1, y2, y3, u1, u2, u3, b32, b31, b30, b10, bits_0] at hr
  refine ld_run hr ?_
  simp (disch := omega) only [u8s_has, u8s_like, hz, decide_eq_true, decide_eq_false, Bool.and_self, Bool.true_and, Bool.and_true, Bool.not_true, Bool.not_false, cond_true, and_true, true_and, and_self]
  have e0 : (256 + M) % 4 = 0 := by omega
  rw [e0]
  refine ⟨rfl, ?_⟩
  exact blt_t (by omega)
end Go.Proofs.YtagacmljbgkmoaaGreatDoor
namespace Go.Proofs.YtagacmljbgkmoaaGreatDoor
set_option linter.unusedVariables false
set_option linter.unusedSimpArgs false
set_option linter.unusedSectionVars false
open Go.RowKit
open Sy
def k0C : Con := ⟨[(frV [(1, cpV 256 0 256 320 27 0 0 true), (16, cpV 0 0 0 64 5 0 0 true)]), (.agg ⟨[.int .i64 1, .int .i64 3, .int .i64 0, .int .i64 0, .int .i64 (-7)]⟩), .pointer (some ⟨67, 0, none⟩)], 68, rowsH, [], (.tuple ⟨[(frV [(1, cpV 256 0 256 320 27 0 0 true), (3, cpV 4294967289 0 0 0 0 0 0 false), (16, cpV 4 0 0 64 5 0 0 true)]), .int .i64 0]⟩), 68, [], []⟩
theorem k0_run : KRun 13 k0C = True := by kernel_rfl
def k1C : Con := ⟨[(frV [(1, cpV 256 0 256 320 27 0 0 true), (3, cpV 4294967289 0 0 0 0 0 0 false), (16, cpV 4 0 0 64 5 0 0 true)]), (.agg ⟨[.int .i64 3, .int .i64 3, .int .i64 3, .int .i64 3, .int .i64 0]⟩), .pointer (some ⟨67, 0, none⟩)], 68, rowsH, [], (.tuple ⟨[(frV [(1, cpV 256 0 256 320 27 0 0 true), (3, cpV 4294967282 0 0 0 0 0 0 false), (16, cpV 8 0 0 64 5 0 0 true)]), .int .i64 0]⟩), 68, [], []⟩
theorem k1_run : KRun 13 k1C = True := by kernel_rfl
def k2C : Con := ⟨[(frV [(1, cpV 256 0 256 320 27 0 0 true), (3, cpV 4294967282 0 0 0 0 0 0 false), (16, cpV 8 0 0 64 5 0 0 true)]), (.agg ⟨[.int .i64 22, .int .i64 3, .int .i64 1, .int .i64 0, .int .i64 2]⟩), .pointer (some ⟨67, 0, none⟩)], 68, arC false [] [] ++ rowsH, arLo, (.tuple ⟨[(frV []), .int .i64 5]⟩), 68, [], []⟩
theorem k2_run : KRun 13 k2C = True := by kernel_rfl
def k3C : Con := ⟨[(frV [(1, cpV 256 0 256 320 27 0 0 true), (3, cpV 4294967282 0 0 0 0 0 0 false), (16, cpV 8 0 0 64 5 0 0 true)]), (.agg ⟨[.int .i64 22, .int .i64 3, .int .i64 3, .int .i64 0, .int .i64 0]⟩), .pointer (some ⟨67, 0, none⟩)], 68, rowsH, [], (.tuple ⟨[(frV []), .int .i64 1]⟩), 68, [], []⟩
theorem k3_run : KRun 13 k3C = True := by kernel_rfl
def k4C : Con := ⟨[(frV [(1, cpV 256 0 256 320 27 0 0 true), (3, cpV 4294967282 0 0 0 0 0 0 false), (16, cpV 8 0 0 64 5 0 0 true)]), (.agg ⟨[.int .i64 24, .int .i64 1, .int .i64 1, .int .i64 0, .int .i64 16]⟩), .pointer (some ⟨67, 0, none⟩)], 68, arC true [] [] ++ rowsH, arLo, (.tuple ⟨[(frV [(1, cpV 256 0 256 320 27 0 0 true), (3, cpV 4294967282 0 0 0 0 0 0 false), (16, cpV 12 0 0 64 5 0 0 true)]), .int .i64 0]⟩), 68, arC true [(273, 1), (278, 1), (279, 64), (280, 1), (281, 27)] [(0, 131072)], arLo⟩
theorem k4_run : KRun 13 k4C = True := by kernel_rfl
def k5C : Con := ⟨[(frV [(1, cpV 256 0 256 320 27 0 0 true), (3, cpV 4294967282 0 0 0 0 0 0 false), (16, cpV 8 0 0 64 5 0 0 true)]), (.agg ⟨[.int .i64 23, .int .i64 4, .int .i64 1, .int .i64 0, .int .i64 16]⟩), .pointer (some ⟨67, 0, none⟩)], 68, arC false [(273, 1), (278, 1), (279, 64), (280, 1), (281, 27)] [(0, 131072)] ++ rowsH, arLo, (.tuple ⟨[.int .i64 1, .bool true]⟩), 68, [], []⟩
theorem k5_run : KRun 21 k5C = True := by kernel_rfl
def listCka : List (FuncId × Con) := [(13, k0C), (13, k1C), (13, k2C), (13, k3C), (13, k4C), (21, k5C)]
theorem listCka_ok : ∀ x ∈ listCka, ConOk Tryz.prog x.1 3 x.2 ∧ FlatC x.2 := by
  intro x hx
  simp only [listCka, List.mem_cons, List.not_mem_nil, or_false] at hx
  rcases hx with rfl | rfl | rfl | rfl | rfl | rfl
  · exact kRun_ok k0_run
  · exact kRun_ok k1_run
  · exact kRun_ok k2_run
  · exact kRun_ok k3_run
  · exact kRun_ok k4_run
  · exact kRun_ok k5_run
end Go.Proofs.YtagacmljbgkmoaaGreatDoor
namespace Go.Proofs.YtagacmljbgkmoaaGreatDoor
set_option linter.unusedVariables false
set_option linter.unusedSimpArgs false
set_option linter.unusedSectionVars false
open Go.RowKit
open Sy
def k6C : Con := ⟨[(frV [(1, cpV 256 0 256 320 27 0 0 true), (3, cpV 4294967282 0 0 0 0 0 0 false), (16, cpV 8 0 0 64 5 0 0 true)]), (.agg ⟨[.int .i64 19, .int .i64 4, .int .i64 1, .int .i64 0, .int .i64 16]⟩), .pointer (some ⟨67, 0, none⟩)], 68, [], [], (.tuple ⟨[.int .i64 0, .bool false]⟩), 68, [], []⟩
theorem k6_run : KRun 21 k6C = True := by kernel_rfl
def k7C : Con := ⟨[(frV [(1, cpV 256 0 256 320 27 0 0 true), (3, cpV 4294967282 0 0 0 0 0 0 false), (16, cpV 8 0 0 64 5 0 0 true)]), (.agg ⟨[.int .i64 23, .int .i64 4, .int .i64 1, .int .i64 0, .int .i64 8]⟩), .pointer (some ⟨67, 0, none⟩)], 68, arC false [(273, 1), (278, 1), (279, 64), (280, 1), (281, 27)] [(0, 131072)] ++ rowsH, arLo, (.tuple ⟨[.int .i64 0, .bool false]⟩), 68, [], []⟩
theorem k7_run : KRun 21 k7C = True := by kernel_rfl
def k8C : Con := ⟨[(frV [(1, cpV 256 0 256 320 27 0 0 true), (3, cpV 4294967282 0 0 0 0 0 0 false), (16, cpV 8 0 0 64 5 0 0 true)]), (.agg ⟨[.int .i64 30, .int .i64 5, .int .i64 1, .int .i64 0, .int .i64 0]⟩), .pointer (some ⟨67, 0, none⟩)], 68, rowsH, [], (.tuple ⟨[(frV []), .int .i64 3]⟩), 68, [], []⟩
theorem k8_run : KRun 13 k8C = True := by kernel_rfl
def k9C : Con := ⟨[(frV [(1, cpV 256 0 256 320 27 0 0 true), (16, cpV 0 0 0 64 5 0 0 true)]), (.agg ⟨[.int .i64 25, .int .i64 3, .int .i64 3, .int .i64 0, .int .i64 16]⟩), .pointer (some ⟨67, 0, none⟩)], 68, rowsH, [], (.tuple ⟨[(frV [(1, cpV 256 0 256 320 27 0 0 true), (16, cpV 64 0 0 64 5 0 0 true)]), .int .i64 0]⟩), 68, [], []⟩
theorem k9_run : KRun 13 k9C = True := by kernel_rfl
def k10C : Con := ⟨[(frV [(1, cpV 256 0 256 320 27 0 0 true), (16, cpV 64 0 0 64 5 0 0 true)]), .pointer (some ⟨67, 0, none⟩)], 68, [], [], (.tuple ⟨[(.agg ⟨[.int .i64 0, .int .i64 0, .int .i64 0, .int .i64 0, .int .i64 0]⟩), .int .i64 4]⟩), 68, [], []⟩
theorem k10_run : KRun 25 k10C = True := by kernel_rfl
def k11C : Con := ⟨[(frV [(1, cpV 256 0 256 320 27 0 0 true), (3, cpV 4294967282 0 0 0 0 0 0 false), (16, cpV 8 0 0 64 5 0 0 true)]), (.agg ⟨[.int .i64 1, .int .i64 16, .int .i64 0, .int .i64 0, .int .i64 0]⟩), .pointer (some ⟨67, 0, none⟩)], 68, rowsH, [], (.tuple ⟨[(frV []), .int .i64 6]⟩), 68, [], []⟩
theorem k11_run : KRun 13 k11C = True := by kernel_rfl
def listCkb : List (FuncId × Con) := [(21, k6C), (21, k7C), (13, k8C), (13, k9C), (25, k10C), (13, k11C)]
theorem listCkb_ok : ∀ x ∈ listCkb, ConOk Tryz.prog x.1 3 x.2 ∧ FlatC x.2 := by
  intro x hx
  simp only [listCkb, List.mem_cons, List.not_mem_nil, or_false] at hx
  rcases hx with rfl | rfl | rfl | rfl | rfl | rfl
  · exact kRun_ok k6_run
  · exact kRun_ok k7_run
  · exact kRun_ok k8_run
  · exact kRun_ok k9_run
  · exact kRun_ok k10_run
  · exact kRun_ok k11_run
end Go.Proofs.YtagacmljbgkmoaaGreatDoor
namespace Go.Proofs.YtagacmljbgkmoaaGreatDoor
set_option linter.unusedVariables false
set_option linter.unusedSimpArgs false
set_option linter.unusedSectionVars false
open Go.RowKit
open Sy
def k12C : Con := ⟨[(frV [(1, cpV 256 0 256 320 27 0 0 true), (3, cpV 4294967282 0 0 0 0 0 0 false), (16, cpV 8 0 0 64 5 0 0 true)]), (.agg ⟨[.int .i64 6, .int .i64 3, .int .i64 3, .int .i64 0, .int .i64 0]⟩), .pointer (some ⟨67, 0, none⟩)], 68, rowsH, [], (.tuple ⟨[(frV []), .int .i64 7]⟩), 68, [], []⟩
theorem k12_run : KRun 13 k12C = True := by kernel_rfl
def k13C : Con := ⟨[(frV [(1, cpV 256 0 256 320 3 0 0 true), (3, cpV 4294967282 0 0 0 0 0 0 false), (16, cpV 8 0 0 64 5 0 0 true)]), (.agg ⟨[.int .i64 24, .int .i64 1, .int .i64 1, .int .i64 0, .int .i64 0]⟩), .pointer (some ⟨67, 0, none⟩)], 68, rowsH, [], (.tuple ⟨[(frV []), .int .i64 3]⟩), 68, [], []⟩
theorem k13_run : KRun 13 k13C = True := by kernel_rfl
def k14C : Con := ⟨[(frV [(1, cpV 256 0 256 320 3 0 0 true), (3, cpV 4294967282 0 0 0 0 0 0 false), (16, cpV 8 0 0 64 5 0 0 true)]), (.agg ⟨[.int .i64 23, .int .i64 4, .int .i64 1, .int .i64 0, .int .i64 16]⟩), .pointer (some ⟨67, 0, none⟩)], 68, arC false [(273, 1), (278, 1), (279, 64), (280, 1), (281, 27)] [(0, 131072)] ++ rowsH, arLo, (.tuple ⟨[(frV [(1, cpV 256 0 256 320 3 0 0 true), (3, cpV 4294967282 0 0 0 0 0 0 false), (4, cpV 256 0 256 320 27 0 0 false), (16, cpV 12 0 0 64 5 0 0 true)]), .int .i64 0]⟩), 68, [], []⟩
theorem k14_run : KRun 13 k14C = True := by kernel_rfl
def k15C : Con := ⟨[(frV [(1, cpV 256 0 256 320 27 0 0 true), (3, cpV 4294967282 0 0 0 0 0 0 false), (16, cpV 8 0 0 64 5 0 0 true)]), (.agg ⟨[.int .i64 29, .int .i64 2, .int .i64 0, .int .i64 0, .int .i64 3]⟩), .pointer (some ⟨67, 0, none⟩)], 68, rowsH, [], (.tuple ⟨[(frV [(1, cpV 256 0 256 320 27 0 0 true), (2, cpV 12 0 0 64 5 0 0 true), (3, cpV 4294967282 0 0 0 0 0 0 false), (16, cpV 20 0 0 64 5 0 0 true)]), .int .i64 0]⟩), 68, [], []⟩
theorem k15_run : KRun 13 k15C = True := by kernel_rfl
def k16C : Con := ⟨[(frV [(1, cpV 256 0 256 320 27 0 0 true), (3, cpV 4294967282 0 0 0 0 0 0 false), (16, cpV 8 0 0 64 5 0 0 true)]), (.agg ⟨[.int .i64 52, .int .i64 0, .int .i64 0, .int .i64 0, .int .i64 3]⟩), .pointer (some ⟨67, 0, none⟩)], 68, rowsH, [], (.tuple ⟨[(frV [(1, cpV 256 0 256 320 27 0 0 true), (3, cpV 4294967282 0 0 0 0 0 0 false), (16, cpV 8 0 0 64 5 0 0 true)]), .int .i64 0]⟩), 68, [], []⟩
theorem k16_run : KRun 13 k16C = True := by kernel_rfl
def k17C : Con := ⟨[(frV [(1, cpV 256 0 256 320 27 0 0 true), (16, cpV 0 0 0 64 5 0 0 true)]), .pointer (some ⟨67, 0, none⟩)], 68, arC false [(273, 1), (278, 1), (279, 64), (280, 1), (281, 27)] [(0, 131072)] ++ rowsH, arLo, (.tuple ⟨[(.agg ⟨[.int .i64 0, .int .i64 0, .int .i64 0, .int .i64 0, .int .i64 0]⟩), .int .i64 0]⟩), 68, [], []⟩
theorem k17_run : KRun 25 k17C = True := by kernel_rfl
def listCkc : List (FuncId × Con) := [(13, k12C), (13, k13C), (13, k14C), (13, k15C), (13, k16C), (25, k17C)]
theorem listCkc_ok : ∀ x ∈ listCkc, ConOk Tryz.prog x.1 3 x.2 ∧ FlatC x.2 := by
  intro x hx
  simp only [listCkc, List.mem_cons, List.not_mem_nil, or_false] at hx
  rcases hx with rfl | rfl | rfl | rfl | rfl | rfl
  · exact kRun_ok k12_run
  · exact kRun_ok k13_run
  · exact kRun_ok k14_run
  · exact kRun_ok k15_run
  · exact kRun_ok k16_run
  · exact kRun_ok k17_run
end Go.Proofs.YtagacmljbgkmoaaGreatDoor
namespace Go.Proofs.YtagacmljbgkmoaaGreatDoor
set_option linter.unusedVariables false
set_option linter.unusedSimpArgs false
set_option linter.unusedSectionVars false
open Go.RowKit
open Sy
def k18C : Con := ⟨[(frV [(1, cpV 256 0 256 320 27 0 0 true), (3, cpV 4294967282 0 0 0 0 0 0 false), (16, cpV 8 0 0 64 5 0 0 true)]), (.agg ⟨[.int .i64 44, .int .i64 7, .int .i64 1, .int .i64 0, .int .i64 0]⟩), .pointer (some ⟨67, 0, none⟩)], 68, rowsH, [], (.tuple ⟨[(frV [(1, cpV 256 0 256 320 27 0 0 true), (3, cpV 4294967282 0 0 0 0 0 0 false), (7, cpV 64 0 0 0 0 0 0 false), (16, cpV 12 0 0 64 5 0 0 true)]), .int .i64 0]⟩), 68, [], []⟩
theorem k18_run : KRun 13 k18C = True := by kernel_rfl
def k19C : Con := ⟨[(frV [(1, cpV 0 21 0 2048 1 0 0 true), (3, cpV 4294967282 0 0 0 0 0 0 false), (16, cpV 8 0 0 64 5 0 0 true)]), (.agg ⟨[.int .i64 44, .int .i64 7, .int .i64 1, .int .i64 0, .int .i64 0]⟩), .pointer (some ⟨67, 0, none⟩)], 68, rowsH, [], (.tuple ⟨[(frV [(1, cpV 0 21 0 2048 1 0 0 true), (3, cpV 4294967282 0 0 0 0 0 0 false), (7, cpV 4294967295 0 0 0 0 0 0 false), (16, cpV 12 0 0 64 5 0 0 true)]), .int .i64 0]⟩), 68, [], []⟩
theorem k19_run : KRun 13 k19C = True := by kernel_rfl
def k20C : Con := ⟨[(frV [(1, cpV 65536 21 0 2048 1 0 0 true), (3, cpV 4294967282 0 0 0 0 0 0 false), (16, cpV 8 0 0 64 5 0 0 true)]), (.agg ⟨[.int .i64 19, .int .i64 7, .int .i64 1, .int .i64 0, .int .i64 0]⟩), .pointer (some ⟨67, 0, none⟩)], 68, arC false [(273, 1), (278, 1), (279, 64), (280, 1), (281, 27)] [(0, 131072)] ++ rowsH, arLo, (.tuple ⟨[(frV []), .int .i64 4]⟩), 68, [], []⟩
theorem k20_run : KRun 13 k20C = True := by kernel_rfl
def k21C : Con := ⟨[(frV [(1, cpV 256 0 256 320 27 0 0 true), (3, cpV 4294967282 0 0 0 0 0 0 false), (5, cpV 32 0 0 256 4 0 0 true), (16, cpV 8 0 0 64 5 0 0 true)]), (.agg ⟨[.int .i64 30, .int .i64 5, .int .i64 5, .int .i64 0, .int .i64 0]⟩), .pointer (some ⟨67, 0, none⟩)], 68, rowsH, [], (.tuple ⟨[(frV [(1, cpV 256 0 256 320 27 0 0 true), (3, cpV 4294967282 0 0 0 0 0 0 false), (5, cpV 12 0 0 64 5 0 0 true), (16, cpV 32 0 0 256 4 0 0 true)]), .int .i64 0]⟩), 68, [], []⟩
theorem k21_run : KRun 13 k21C = True := by kernel_rfl
def k22C : Con := ⟨[(frV [(1, cpV 256 0 256 320 27 0 0 true), (3, cpV 4294967282 0 0 0 0 0 0 false), (5, cpV 32 0 0 256 4 3 0 true), (16, cpV 8 0 0 64 5 0 0 true)]), (.agg ⟨[.int .i64 30, .int .i64 6, .int .i64 5, .int .i64 0, .int .i64 0]⟩), .pointer (some ⟨67, 0, none⟩)], 68, rowsH, [], (.tuple ⟨[(frV []), .int .i64 2]⟩), 68, [], []⟩
theorem k22_run : KRun 13 k22C = True := by kernel_rfl
def k23C : Con := ⟨[(frV [(1, cpV 256 0 256 320 27 0 0 true), (3, cpV 4294967289 0 0 0 0 0 0 false), (16, cpV 4 0 0 64 5 0 0 true)]), (.agg ⟨[.int .i64 22, .int .i64 3, .int .i64 1, .int .i64 0, .int .i64 4]⟩), .pointer (some ⟨67, 0, none⟩)], 68, arC true [] [] ++ rowsH, arLo, (.tuple ⟨[(frV [(1, cpV 256 0 256 320 27 0 0 true), (3, cpV 4294967289 0 0 0 0 0 0 false), (16, cpV 8 0 0 64 5 0 0 true)]), .int .i64 0]⟩), 68, arC true [(260, 249), (261, 255), (262, 255), (263, 255)] [], arLo⟩
theorem k23_run : KRun 13 k23C = True := by kernel_rfl
def listCkd : List (FuncId × Con) := [(13, k18C), (13, k19C), (13, k20C), (13, k21C), (13, k22C), (13, k23C)]
theorem listCkd_ok : ∀ x ∈ listCkd, ConOk Tryz.prog x.1 3 x.2 ∧ FlatC x.2 := by
  intro x hx
  simp only [listCkd, List.mem_cons, List.not_mem_nil, or_false] at hx
  rcases hx with rfl | rfl | rfl | rfl | rfl | rfl
  · exact kRun_ok k18_run
  · exact kRun_ok k19_run
  · exact kRun_ok k20_run
  · exact kRun_ok k21_run
  · exact kRun_ok k22_run
  · exact kRun_ok k23_run
end Go.Proofs.YtagacmljbgkmoaaGreatDoor
namespace Go.Proofs.YtagacmljbgkmoaaGreatDoor
set_option linter.unusedVariables false
set_option linter.unusedSimpArgs false
set_option linter.unusedSectionVars false
open Go.RowKit
open Sy
def k24C : Con := ⟨[(frV [(1, cpV 256 0 256 320 27 0 0 true), (3, cpV 4294967289 0 0 0 0 0 0 false), (16, cpV 8 0 0 64 5 0 0 true)]), (.agg ⟨[.int .i64 22, .int .i64 3, .int .i64 1, .int .i64 0, .int .i64 62]⟩), .pointer (some ⟨67, 0, none⟩)], 68, rowsH, [], (.tuple ⟨[(frV []), .int .i64 4]⟩), 68, [], []⟩
theorem k24_run : KRun 13 k24C = True := by kernel_rfl
def k25C : Con := ⟨[(frV [(1, cpV 256 0 256 320 27 0 0 true), (3, cpV 4294967289 0 0 0 0 0 0 false), (16, cpV 8 0 0 64 5 0 0 true)]), (.agg ⟨[.int .i64 53, .int .i64 0, .int .i64 0, .int .i64 0, .int .i64 0]⟩), .pointer (some ⟨67, 0, none⟩)], 68, rowsH, [], (.tuple ⟨[(frV []), .int .i64 6]⟩), 68, [], []⟩
theorem k25_run : KRun 13 k25C = True := by kernel_rfl
def k26C : Con := ⟨[(frV [(1, cpV 256 0 256 320 27 0 0 true), (3, cpV 4294967289 0 0 0 0 0 0 false), (16, cpV 8 0 0 64 5 0 0 true)]), (.agg ⟨[.int .i64 24, .int .i64 1, .int .i64 1, .int .i64 0, .int .i64 16]⟩), .pointer (some ⟨67, 0, none⟩)], 68, arC true [(260, 249), (261, 255), (262, 255), (263, 255)] [] ++ rowsH, arLo, (.tuple ⟨[(frV [(1, cpV 256 0 256 320 27 0 0 true), (3, cpV 4294967289 0 0 0 0 0 0 false), (16, cpV 12 0 0 64 5 0 0 true)]), .int .i64 0]⟩), 68, arC true [(260, 249), (261, 255), (262, 255), (263, 255), (273, 1), (278, 1), (279, 64), (280, 1), (281, 27)] [(0, 131072)], arLo⟩
theorem k26_run : KRun 13 k26C = True := by kernel_rfl
def k27C : Con := ⟨[(frV [(1, cpV 256 0 256 320 27 0 0 true), (3, cpV 4294967289 0 0 0 0 0 0 false), (16, cpV 8 0 0 64 5 0 0 true)]), (.agg ⟨[.int .i64 23, .int .i64 4, .int .i64 1, .int .i64 0, .int .i64 16]⟩), .pointer (some ⟨67, 0, none⟩)], 68, arC false [(260, 249), (261, 255), (262, 255), (263, 255), (273, 1), (278, 1), (279, 64), (280, 1), (281, 27)] [(0, 131072)] ++ rowsH, arLo, (.tuple ⟨[(frV [(1, cpV 256 0 256 320 27 0 0 true), (3, cpV 4294967289 0 0 0 0 0 0 false), (4, cpV 256 0 256 320 27 0 0 true), (16, cpV 12 0 0 64 5 0 0 true)]), .int .i64 0]⟩), 68, [], []⟩
theorem k27_run : KRun 13 k27C = True := by kernel_rfl
def listCke : List (FuncId × Con) := [(13, k24C), (13, k25C), (13, k26C), (13, k27C)]
theorem listCke_ok : ∀ x ∈ listCke, ConOk Tryz.prog x.1 3 x.2 ∧ FlatC x.2 := by
  intro x hx
  simp only [listCke, List.mem_cons, List.not_mem_nil, or_false] at hx
  rcases hx with rfl | rfl | rfl | rfl
  · exact kRun_ok k24_run
  · exact kRun_ok k25_run
  · exact kRun_ok k26_run
  · exact kRun_ok k27_run
end Go.Proofs.YtagacmljbgkmoaaGreatDoor
namespace Go.Proofs.YtagacmljbgkmoaaGreatDoor
set_option linter.unusedVariables false
set_option linter.unusedSimpArgs false
set_option linter.unusedSectionVars false
open Go.RowKit
open Sy
def listK : List (FuncId × Con) := (9, newC) :: (listCka ++ (listCkb ++ (listCkc ++ (listCkd ++ listCke))))
theorem listK_ok : ∀ x ∈ listK, ConOk Tryz.prog x.1 3 x.2 ∧ FlatC x.2 := by
  intro x hx
  simp only [listK, List.mem_cons, List.mem_append] at hx
  rcases hx with rfl | h | h | h | h | h
  · exact kRun_ok new_run
  · exact listCka_ok x h
  · exact listCkb_ok x h
  · exact listCkc_ok x h
  · exact listCkd_ok x h
  · exact listCke_ok x h
def worksC : Con := ⟨[], 64, rowsH, [], .bool true, 64, [], []⟩
def LRun (f : FuncId) (c : Con) : Prop := ConRun 3 (evF Tryz.prog (baseB 3 listK (baseD 3 aluD noBase)) noLoop 1000 40) f c
theorem lRun_ok {f : FuncId} {c : Con} (h : LRun f c = True) : ConOk Tryz.prog f 3 c ∧ FlatC c := conRun_ok (run_ok c_names (baseB_ok listK_ok (baseD_ok aluD_ok (noBase_ok _))) (noLoop_ok _) 40) h
theorem works_run : LRun 10 worksC = True := by kernel_rfl
end Go.Proofs.YtagacmljbgkmoaaGreatDoor
