/-
  ImageChecks: part 3 of the proof.
-/
import Derived.Below
import Derived.BigQuiet
import Derived.Calls
import Derived.Deep.AppendLies
import Derived.Deep.Draws
import Derived.Deep.QuietTactic
import Derived.Deep.RegionHeld3
import Derived.IntWalk
import Derived.KernelRfl
import Derived.Laws.Bits64
import Derived.Laws.BitsAllLaws
import Derived.Laws.BytesArg
import Derived.Laws.Concat
import Derived.Laws.EntriesVeiled
import Derived.Laws.IdiomStrings
import Derived.Laws.OwnMore
import Derived.Laws.Rows
import Derived.Laws.Strings
import Derived.Laws.Strings2
import Derived.Lib.Hide
import Derived.Outline
import Derived.Test.YtdljpnebpoaeiaaProg
import Derived.Test.YtdljpnebpoaeiaaQImageChecksB
import Derived.WalkKit
import Derived.WalkLawsBesides
import Derived.WalkSpells
namespace Go.Proofs.Ytdljpnebpoaeiaa
open Go.RowKit
structure Box (p : Prop) : Prop where
  out : p
theorem hide {p : Prop} (h : p) : Hid p := h
theorem block_of_add (a : Addr) (n : Nat) : (a.add n).block = a.block := by unfold Addr.add; split <;> rfl
theorem add_of_add (a : Addr) (i j : Nat) : (a.add i).add j = a.add (i + j) := by
  unfold Addr.add
  by_cases hi : i = 0 <;> by_cases hj : j = 0 <;> simp [hi, hj, Nat.add_assoc]
def Reads (w : World) (B size : Nat) (A : Option Addr) (n : Nat) (xs : List Value) : Prop :=
  xs.length = n * size ∧ (0 < n → ∃ ad, A = some ad ∧ ad.block < B ∧ ∀ j u, xs[j]? = some u → w.cell? (ad.add j) = some u)
section
variable {w w' : World} {B B' size n : Nat} {A : Option Addr} {xs : List Value}
theorem Reads.at_ {k : Nat} (h : Reads w B 1 A n xs) (hk : k < n) : ∃ ad u, A = some ad ∧ ad.block < B ∧ xs[k]? = some u ∧ w.cell? (ad.add k) = some u := by
  obtain ⟨ad, e, hb, hc⟩ := h.2 (by omega)
  have hl : k < xs.length := by have := h.1; omega
  exact ⟨ad, xs[k], e, hb, List.getElem?_eq_getElem hl, hc k _ (List.getElem?_eq_getElem hl)⟩
theorem Reads.keep (h : Reads w B size A n xs) (hk : ∀ p : Addr, p.block < B → w'.cell? p = w.cell? p) : Reads w' B size A n xs :=
  ⟨h.1, fun hn => by
    obtain ⟨ad, e, hb, hc⟩ := h.2 hn
    exact ⟨ad, e, hb, fun j u hu => (hk _ (by rw [block_of_add]; exact hb)).trans (hc j u hu)⟩⟩
theorem Reads.below (h : Reads w B size A n xs) (hb : Below B w w') : Reads w' B size A n xs := h.keep fun _ hp => hb.cell hp
theorem Reads.drew (h : Reads w B size A n xs) : Reads w.drew B size A n xs := h
theorem Reads.drewN (h : Reads w B size A n xs) (k : Nat) : Reads (w.drewN k) B size A n xs := h
theorem Reads.alloc (h : Reads w B size A n xs) (hB : B ≤ w.heap.size) (o : Obj) : Reads (w.alloc o) B size A n xs := h.keep fun p hp => World.cell?_alloc_lt w o p (by omega)
theorem Reads.setCell (h : Reads w B size A n xs) {p : Addr} (hB : B ≤ p.block) (u : Value) : Reads (w.setCell p u) B size A n xs :=
  h.keep fun q hq => World.cell?_setCell_other w p q u (fun e => by subst e; omega)
theorem Reads.cut (h : Reads w B size A n xs) {k cap : Nat} (hk : k ≤ n) (hc : n ≤ cap) :
    Reads w B size (if cap = k then A else A.map (·.add (k * size))) (n - k) (xs.drop (k * size)) := by
  refine ⟨by rw [List.length_drop, h.1, Nat.sub_mul], fun hn => ?_⟩
  obtain ⟨ad, rfl, hb, hcell⟩ := h.2 (by omega)
  rw [if_neg (by omega)]
  refine ⟨ad.add (k * size), rfl, by rw [block_of_add]; exact hb, fun j u hu => ?_⟩
  rw [add_of_add]
  exact hcell _ u (by rw [← hu, List.getElem?_drop])
end
def Blk (w : World) (g : Nat) (t : TypeId) (cs : Array Value) : Prop := w.heap[g]? = some (.cells cs t (0, 0))
section
variable {w w' : World} {g : Nat} {t : TypeId} {cs : Array Value}
theorem Blk.lt (h : Blk w g t cs) : g < w.heap.size := by
  rcases Nat.lt_or_ge g w.heap.size with hlt | hge
  · exact hlt
  · unfold Blk at h; rw [Array.getElem?_eq_none hge] at h; cases h
theorem Blk.cell (h : Blk w g t cs) (i : Nat) : w.cell? ⟨g, i, none⟩ = cs[i]? := cell_of_row w g i cs t (0, 0) h
theorem Blk.frozen (h : Blk w g t cs) (i : Nat) : w.frozen? ⟨g, i, none⟩ = false := by
  unfold Blk at h
  simp [World.frozen?, h]
theorem Blk.new (w : World) (t : TypeId) (cs : Array Value) : Blk (w.alloc (.cells cs t)) w.heap.size t cs := heap_alloc_new w _
theorem Blk.drew (h : Blk w g t cs) : Blk w.drew g t cs := h
theorem Blk.drewN (h : Blk w g t cs) (n : Nat) : Blk (w.drewN n) g t cs := h
theorem Blk.alloc (h : Blk w g t cs) (o : Obj) : Blk (w.alloc o) g t cs := (Below.heap_alloc w o g h.lt).trans h
theorem Blk.far (h : Blk w g t cs) {p : Addr} (hp : g ≠ p.block) (u : Value) : Blk (w.setCell p u) g t cs := (Below.heap_setCell w p u g hp).trans h
theorem Blk.below {B : Nat} (h : Blk w g t cs) (hb : Below B w w') (hg : g < B) : Blk w' g t cs := (hb.block g hg).trans h
end
def Row (w : World) (B : Nat) (A : Option Addr) (xs : List Value) : Prop :=
  xs = [] ∨ ∃ g off, A = some ⟨g, off, none⟩ ∧ g < B ∧ ∀ j u, xs[j]? = some u → w.cell? ⟨g, off + j, none⟩ = some u
section
variable {w w' : World} {B B' : Nat} {A : Option Addr} {xs : List Value}
theorem Row.keep (h : Row w B A xs) (hk : ∀ p : Addr, p.block < B → w'.cell? p = w.cell? p) : Row w' B A xs := by
  rcases h with h | ⟨g, off, e, hb, hc⟩
  · exact .inl h
  · exact .inr ⟨g, off, e, hb, fun j u hu => (hk _ hb).trans (hc j u hu)⟩
theorem Row.below (h : Row w B A xs) (hb : Below B w w') : Row w' B A xs := h.keep fun _ hp => hb.cell hp
theorem Row.drew (h : Row w B A xs) : Row w.drew B A xs := h
theorem Row.drewN (h : Row w B A xs) (k : Nat) : Row (w.drewN k) B A xs := h
theorem Row.alloc (h : Row w B A xs) (hB : B ≤ w.heap.size) (o : Obj) : Row (w.alloc o) B A xs := h.keep fun p hp => World.cell?_alloc_lt w o p (by omega)
theorem Row.setCell (h : Row w B A xs) {p : Addr} (hB : B ≤ p.block) (u : Value) : Row (w.setCell p u) B A xs :=
  h.keep fun q hq => World.cell?_setCell_other w p q u (fun e => by subst e; omega)
theorem Row.cut (h : Row w B A xs) {k cap : Nat} (hk : k ≤ xs.length) (hc : xs.length ≤ cap) :
    Row w B (if cap = k then A else A.map (·.add (k * 1))) (xs.drop k) := by
  rcases Nat.lt_or_ge k xs.length with hlt | hge
  · rcases h with h | ⟨g, off, rfl, hb, hcell⟩
    · subst h; simp at hlt
    · rw [if_neg (by omega)]
      refine .inr ⟨g, off + k, ?_, hb, fun j u hu => ?_⟩
      · simp only [Option.map_some, Nat.mul_one, Addr.add]; split
        · rename_i h0; subst h0; rfl
        · rfl
      · rw [List.getElem?_drop] at hu
        rw [Nat.add_assoc]; exact hcell _ u hu
  · left; exact List.drop_eq_nil_of_le hge
theorem Row.take (h : Row w B A xs) (k : Nat) : Row w B A (xs.take k) := by
  rcases h with h | ⟨g, off, e, hb, hc⟩
  · exact .inl (by simp [h])
  · exact .inr ⟨g, off, e, hb, fun j u hu => hc j u (by
      rw [List.getElem?_take] at hu; split at hu
      · exact hu
      · cases hu)⟩
theorem Row.place (h : Row w B A xs) (hx : 0 < xs.length) : ∃ g off, A = some ⟨g, off, none⟩ ∧ g < B ∧ ∀ j u, xs[j]? = some u → w.cell? ⟨g, off + j, none⟩ = some u := by
  rcases h with h | h
  · subst h; simp at hx
  · exact h
end
def bs (l : List UInt8) : ByteArray := ⟨l.toArray⟩
@[go_sem] theorem bs_size (l : List UInt8) : (bs l).size = l.length := by simp [bs, ByteArray.size]
@[go_sem] theorem bs_toList (l : List UInt8) : (bs l).toList = l := ByteArray.toList_mk l
@[go_sem] theorem bs_append (a b : List UInt8) : bs a ++ bs b = bs (a ++ b) := ByteArray.mk_append_mk a b
@[go_sem] theorem bs_extract (l : List UInt8) (a b : Nat) : (bs l).extract a b = bs ((l.drop a).take (b - a)) := ByteArray.extract_mk l a b
@[go_sem] theorem bs_get (l : List UInt8) (i : Nat) (h : i < (bs l).size) : (bs l)[i]'h = l[i]'(by simpa [bs_size] using h) := by
  simp [bs, ByteArray.getElem_eq_getElem_data]
theorem ret_int {k : IntKind} {a b : Int} (h : a = b) : Ending.returned (.int k a) = .returned (.int k b) := by rw [h]
theorem below_drewN {B : Nat} {a w : World} (h : Below B a w) (n : Nat) : Below B a (w.drewN n) := ⟨h.os, h.tape, h.output, h.size, h.block⟩
end Go.Proofs.Ytdljpnebpoaeiaa
namespace Go.Proofs.Ytdljpnebpoaeiaa
set_option linter.unusedVariables false
set_option linter.unusedSimpArgs false
theorem pow_le_21 {e : Nat} (h : e ≤ 21) : 2 ^ e ≤ 2097152 := by
  have := Nat.pow_le_pow_right (n := 2) (by omega) h
  simpa using this
theorem pow_pos2 (e : Nat) : 0 < 2 ^ e := Nat.pow_pos (by omega)
def dnN (x e : Nat) : Nat := x / 2 ^ e * 2 ^ e
def upN (x e : Nat) : Nat := (x + (2 ^ e - 1)) / 2 ^ e * 2 ^ e
def fitsN (b t e : Nat) : Bool := decide (upN t e - dnN b e ≤ 2048 * 2 ^ e)
def expoFrom (b t : Nat) : Nat → Nat → Nat
  | 0, e => e
  | n + 1, e => if fitsN b t e then e else expoFrom b t n (e + 1)
def expoN (b t : Nat) : Nat := expoFrom b t 21 0
theorem dn_le (x e : Nat) : dnN x e ≤ x := Nat.div_mul_le_self _ _
theorem up_ge (x e : Nat) : x ≤ upN x e := by
  unfold upN
  have h0 := pow_pos2 e
  have h1 := Nat.div_add_mod (x + (2 ^ e - 1)) (2 ^ e)
  have h2 := Nat.mod_lt (x + (2 ^ e - 1)) h0
  rw [Nat.mul_comm] at h1
  omega
theorem up_lt (x e : Nat) : upN x e < x + 2 ^ e := by
  unfold upN
  have h0 := pow_pos2 e
  have h1 := Nat.div_mul_le_self (x + (2 ^ e - 1)) (2 ^ e)
  omega
theorem up_least {x e k : Nat} (h : x ≤ k * 2 ^ e) : upN x e ≤ k * 2 ^ e := by
  unfold upN
  have h0 := pow_pos2 e
  have : (x + (2 ^ e - 1)) / 2 ^ e ≤ k := by
    have h1 : (x + (2 ^ e - 1)) / 2 ^ e < k + 1 := (Nat.div_lt_iff_lt_mul h0).2 (by rw [Nat.add_mul, Nat.one_mul]; omega)
    omega
  exact Nat.mul_le_mul_right _ this
theorem up_whole {t e : Nat} (he : e ≤ 21) (ht : t ≤ 4294967296) : upN t e ≤ 4294967296 := by
  have hd : 2 ^ e * 2 ^ (32 - e) = 4294967296 := by rw [← Nat.pow_add, show e + (32 - e) = 32 by omega]
  have := up_least (x := t) (e := e) (k := 2 ^ (32 - e)) (by rw [Nat.mul_comm, hd]; exact ht)
  rw [Nat.mul_comm, hd] at this
  exact this
theorem fits_21 {b t : Nat} (ht : t ≤ 4294967296) : fitsN b t 21 = true := by
  unfold fitsN
  have := up_whole (e := 21) (by omega) ht
  simp only [decide_eq_true_eq]
  omega
theorem expoFrom_le (b t : Nat) : ∀ n e, expoFrom b t n e ≤ e + n := by
  intro n
  induction n with
  | zero => intro e; exact Nat.le_refl _
  | succ n ih =>
    intro e
    unfold expoFrom
    split
    · omega
    · have := ih (e + 1); omega
theorem expo_le (b t : Nat) : expoN b t ≤ 21 := by
  have := expoFrom_le b t 21 0
  unfold expoN; omega
theorem expoFrom_fits (b t : Nat) : ∀ n e, (expoFrom b t n e = e + n ∨ fitsN b t (expoFrom b t n e) = true) ∧ ∀ j, e ≤ j → j < expoFrom b t n e → fitsN b t j = false := by
  intro n
  induction n with
  | zero => intro e; exact ⟨.inl rfl, fun j h1 h2 => by simp [expoFrom] at h2; omega⟩
  | succ n ih =>
    intro e
    unfold expoFrom
    split
    · rename_i h; exact ⟨.inr h, fun j h1 h2 => by omega⟩
    · rename_i h
      obtain ⟨h1, h2⟩ := ih (e + 1)
      refine ⟨?_, fun j hj1 hj2 => ?_⟩
      · rcases h1 with h1 | h1
        · left; omega
        · exact .inr h1
      · rcases Nat.lt_or_ge j (e + 1) with hj | hj
        · obtain rfl : j = e := by omega
          simpa using h
        · exact h2 j hj hj2
theorem expo_least {b t j : Nat} (h : j < expoN b t) : fitsN b t j = false := (expoFrom_fits b t 21 0).2 j (by omega) h
theorem and_high (a e : Nat) (ha : a < 18446744073709551616) (he : e ≤ 64) : a &&& (18446744073709551615 - (2 ^ e - 1)) = a / 2 ^ e * 2 ^ e := by
  have h0 := pow_pos2 e
  have h1 : 18446744073709551615 - (2 ^ e - 1) = 2 ^ 64 - ((2 ^ e - 1) + 1) := by
    have : 2 ^ e ≤ 2 ^ 64 := Nat.pow_le_pow_right (by omega) he
    omega
  rw [h1]
  apply Nat.eq_of_testBit_eq
  intro i
  have h2 : 2 ^ e ≤ 2 ^ 64 := Nat.pow_le_pow_right (by omega) he
  rw [Nat.testBit_and, Nat.testBit_two_pow_sub_succ (by omega), Nat.testBit_two_pow_sub_one, Nat.testBit_mul_two_pow, Nat.testBit_div_two_pow]
  by_cases hi : e ≤ i
  · rw [Nat.sub_add_cancel hi]
    have e1 : decide (i < e) = false := by simp; omega
    have e2 : decide (e ≤ i) = true := by simpa using hi
    rw [e1, e2]
    by_cases h64 : i < 64
    · have e3 : decide (i < 64) = true := by simpa using h64
      rw [e3]; simp
    · have : a.testBit i = false := Nat.testBit_lt_two_pow (Nat.lt_of_lt_of_le ha (Nat.pow_le_pow_right (n := 2) (by omega) (show 64 ≤ i by omega)))
      rw [this]; simp
  · have e1 : decide (i < e) = true := by simp; omega
    have e2 : decide (e ≤ i) = false := by simpa using hi
    rw [e1, e2]; simp
theorem low_wrap {e : Nat} (he : e ≤ 21) : IntKind.u64.wrap (IntKind.u64.wrap ((2 : Int) ^ e) - 1) = ((2 ^ e - 1 : Nat) : Int) := by
  have hp := pow_le_21 he
  have h0 := pow_pos2 e
  have e1 : ((2 : Int) ^ e) = ((2 ^ e : Nat) : Int) := by simp
  rw [e1, IntKind.wrap_u64, IntKind.wrap_u64]
  generalize 2 ^ e = u at hp h0
  omega
theorem andNot_dn (x e : Nat) (hx : x < 18446744073709551616) (he : e ≤ 21) : bits .andNot .u64 (x : Int) ((2 ^ e - 1 : Nat) : Int) = ((x / 2 ^ e * 2 ^ e : Nat) : Int) := by
  have hp := pow_le_21 he
  rw [u64_andNot_nat x (2 ^ e - 1) hx (by omega), and_high x e hx (by omega)]
theorem u64_mask12 (x : Nat) (hx : x < 18446744073709551616) : bits .and .u64 (x : Int) 4095 = ((x % 4096 : Nat) : Int) := by
  have := u64_and_nat x 4095 hx (by omega)
  rw [nat_mask12] at this
  exact this
theorem dn_div (b e : Nat) : dnN b e / 2 ^ e = b / 2 ^ e := by
  unfold dnN; exact Nat.mul_div_cancel _ (pow_pos2 e)
def rightN (b t : Nat) : Bool := decide (b ≤ t) && decide (t ≤ 4294967296)
end Go.Proofs.Ytdljpnebpoaeiaa
namespace Go.Proofs.Ytdljpnebpoaeiaa
set_option linter.unusedVariables false
set_option linter.unusedSimpArgs false
open Go.RowKit
theorem ret2_both {k k' : IntKind} {a b c d : Int} (h : a = b) (h' : c = d) : Ending.returned (.tuple #[.int k a, .int k' c]) = .returned (.tuple #[.int k b, .int k' d]) := by rw [h, h']
end Go.Proofs.Ytdljpnebpoaeiaa
namespace Go.Proofs.Ytdljpnebpoaeiaa
set_option linter.unusedVariables false
set_option linter.unusedSimpArgs false
open Go.RowKit
theorem ret5_bool {a b c d : Value} {x y : Bool} (h : x = y) : Ending.returned (.tuple #[a, b, c, .bool x, d]) = .returned (.tuple #[a, b, c, .bool y, d]) := by rw [h]
theorem beq_cast (u t : Nat) : ((u : Int) == (t : Int)) = decide (u = t) := by
  rw [Bool.eq_iff_iff]; simp; omega
theorem results_tmp5 {fn : Func} {t u v x y : Tmp} (h : fn.results = #[.tmp t, .tmp u, .tmp v, .tmp x, .tmp y]) (tmps : Array Value) (P : Program) (w : World) :
    (results fn tmps).run P w = .ok (.tuple #[tmps.getD t undef, tmps.getD u undef, tmps.getD v undef, tmps.getD x undef, tmps.getD y undef]) w := by simp [results, h]
theorem rounded_any (b t e : Nat) (w : World) (hb : b < 4294967296) (ht : t ≤ 4294967296) (he : e ≤ 21) :
    Calls Try.prog 55 #[.int .u32 b, .int .u64 t, .int .i64 e] w fun e' w' => e' = .returned (.tuple #[.int .u64 (dnN b e), .int .u64 (upN t e)]) ∧ w = w' := by
  have hp := pow_le_21 he
  have h0 := pow_pos2 e
  have hlw := low_wrap he
  have a1 := andNot_dn b e (by omega) he
  have a2 := andNot_dn (t + (2 ^ e - 1)) e (by omega) he
  obtain ⟨lo, hlo⟩ : ∃ lo, 2 ^ e - 1 = lo := ⟨_, rfl⟩
  have hlb : lo ≤ 2097151 := by omega
  unfold dnN upN
  rw [hlo] at hlw a1 a2 ⊢
  have A1 := hide a1
  have A2 := hide a2
  clear a1 a2 hlo hp h0
  go_enter Try.func55, Try.ntmps55
  go_wp2
  go_ret2
  exact ⟨ret2_both A1.out A2.out, rfl⟩
theorem right_no (b t : Nat) (w : World) (hb : b < 4294967296) (ht : t < 18446744073709551616) (h : rightN b t = false) :
    Calls Try.prog 53 #[.int .u32 b, .int .u64 t] w fun e' w' => e' = .returned (.bool false) ∧ w = w' := by
  have hcase : (t : Int) < b ∨ ((b : Int) ≤ t ∧ (4294967296 : Int) < t) := by
    simp only [rightN, Bool.and_eq_false_iff, decide_eq_false_iff_not] at h; omega
  rcases hcase with h1 | ⟨h1, h2⟩
  · have d1 : decide ((b : Int) ≤ t) = false := by simp; omega
    go_enter Try.func53, Try.ntmps53
    go_wp2
    go_ret
    exact ⟨rfl, rfl⟩
  · have d1 : decide ((t : Int) ≤ 4294967296) = false := by simp; omega
    go_enter Try.func53, Try.ntmps53
    go_wp2
    go_ret
    exact ⟨rfl, rfl⟩
theorem right_yes (b t : Nat) (w : World) (h1 : b ≤ t) (h2 : t ≤ 4294967296) :
    Calls Try.prog 53 #[.int .u32 b, .int .u64 t] w fun e' w' => e' = .returned (.bool true) ∧ w = w' := by
  have d1 : (b : Int) ≤ t := by omega
  have d2 : (t : Int) ≤ 4294967296 := by omega
  have d3 : decide ((t : Int) ≤ 4294967296) = true := by simpa using d2
  go_enter Try.func53, Try.ntmps53
  go_wp2
  go_ret
  exact ⟨by first | rfl | simp [d2], rfl⟩
theorem exponent_any (b t : Nat) (w : World) (hb : b < 4294967296) (hbt : b ≤ t) (ht : t ≤ 4294967296) :
    Calls Try.prog 54 #[.int .u32 b, .int .u64 t] w fun e' w' => e' = .returned (.int .i64 (expoN b t)) ∧ w = w' := by
  go_enter Try.func54, Try.ntmps54
  go_wp2
  go_loop [8] (fun i => ∃ k : Nat, k ≤ 21 ∧ i = .int .i64 k ∧ Hid (expoN b t = expoFrom b t (21 - k) k)) (fun i => (21 - intOf i).toNat)
  case atStart => exact ⟨0, by omega, rfl, rfl⟩
  case round =>
    obtain ⟨k, hk, rfl, HE⟩ := hrel
    by_cases h0 : k < 21
    · have hd1 := dn_le b k
      have hd2 := up_ge t k
      have hd3 := up_lt t k
      have hp := pow_le_21 hk
      have hle : dnN b k ≤ upN t k := by omega
      have hul : upN t k ≤ 4294967296 + 2097152 := by omega
      have hpw : IntKind.u64.wrap ((2048 : Int) * 2 ^ k) = ((2048 * 2 ^ k : Nat) : Int) := by
        rw [IntKind.wrap_u64, show ((2 : Int) ^ k) = ((2 ^ k : Nat) : Int) by simp]; omega
      obtain ⟨p, hpp⟩ : ∃ p, 2048 * 2 ^ k = p := ⟨_, rfl⟩
      obtain ⟨d, hd⟩ : ∃ d, dnN b k = d := ⟨_, rfl⟩
      obtain ⟨u, hu⟩ : ∃ u, upN t k = u := ⟨_, rfl⟩
      have hra := fun W => rounded_any b t k W hb ht hk
      have HF : Hid (fitsN b t k = decide (u - d ≤ p)) := by show _ = _; unfold fitsN; rw [hpp, hd, hu]
      rw [hd, hu] at hra hle
      rw [hu] at hul
      rw [hpp] at hpw
      have HRA := hide hra
      clear hra hpp hd hu hd1 hd2 hd3 hp
      by_cases hf : (u : Int) - d ≤ p
      · go_wp2_with (go_at_call 55; refine (HRA.out _).mono ?_; rintro e' w' ⟨rfl, rfl⟩)
        go_ret
        refine ⟨ret_int ?_, rfl⟩
        have hft : fitsN b t k = true := by rw [HF.out]; simp; omega
        rw [HE.out, show 21 - k = (20 - k) + 1 by omega, expoFrom, if_pos hft]
      · go_wp2_with (go_at_call 55; refine (HRA.out _).mono ?_; rintro e' w' ⟨rfl, rfl⟩)
        have hft : fitsN b t k = false := by rw [HF.out]; simp; omega
        have HT : Hid (expoN b t = expoFrom b t (21 - (k + 1)) (k + 1)) := by
          show _ = _
          rw [HE.out, show 21 - k = (21 - (k + 1)) + 1 by omega, expoFrom, hft]; rfl
        go_round
        case rel => exact ⟨k + 1, by omega, by go_num, HT⟩
        case measure => simp [intOf]; omega
    · go_wp2
      go_ret
      obtain rfl : k = 21 := by omega
      exact ⟨ret_int (by rw [HE.out]; rfl), rfl⟩
def encE (b t : Nat) : Nat := if rightN b t then expoN b t else 0
def encB (b t : Nat) : Nat := if rightN b t then b / 2 ^ expoN b t % 4096 else 0
def encT (b t : Nat) : Nat := if rightN b t then upN t (expoN b t) / 2 ^ expoN b t % 4096 else 0
def encX (b t : Nat) : Bool := rightN b t && decide (dnN b (expoN b t) = b) && decide (upN t (expoN b t) = t)
theorem rightN_true {b t : Nat} (h : rightN b t = true) : b ≤ t ∧ t ≤ 4294967296 := by
  simpa [rightN] using h
theorem encode_any (b t : Nat) (w : World) (hb : b < 4294967296) (ht : t < 18446744073709551616) :
    Calls Try.prog 28 #[.int .u32 b, .int .u64 t] w fun e' w' => e' = .returned (.tuple #[.int .u8 (encE b t), .int .u16 (encB b t), .int .u16 (encT b t), .bool (encX b t), .bool (rightN b t)]) ∧ ∃ m, w' = w.drewN m := by
  by_cases hr : rightN b t = true
  · obtain ⟨h1, h2⟩ := rightN_true hr
    unfold encE encB encT encX
    rw [hr, if_pos rfl, if_pos rfl, if_pos rfl]
    have hex := fun W => exponent_any b t W hb h1 h2
    have hk := expo_le b t
    have hra := fun W => rounded_any b t (expoN b t) W hb h2 hk
    obtain ⟨k, hkk⟩ : ∃ k, expoN b t = k := ⟨_, rfl⟩
    rw [hkk] at hk hex hra ⊢
    have hd1 := dn_le b k
    have hd3 := up_lt t k
    have hp := pow_le_21 hk
    obtain ⟨x, hx⟩ : ∃ x, b / 2 ^ k = x := ⟨_, rfl⟩
    have hdx := dn_div b k
    rw [hx] at hdx ⊢
    obtain ⟨d, hd⟩ : ∃ d, dnN b k = d := ⟨_, rfl⟩
    obtain ⟨u, hu⟩ : ∃ u, upN t k = u := ⟨_, rfl⟩
    rw [hd] at hdx hd1 hra ⊢
    rw [hu] at hd3 hra ⊢
    obtain ⟨y, hy⟩ : ∃ y, u / 2 ^ k = y := ⟨_, rfl⟩
    rw [hy]
    have hxl : x < 4294967296 := by rw [← hx]; exact Nat.lt_of_le_of_lt (Nat.div_le_self _ _) hb
    have hyl : y ≤ 4297064448 := by rw [← hy]; exact Nat.le_trans (Nat.div_le_self _ _) (by omega)
    have i1 : (d : Int) / 2 ^ k = (x : Int) := by rw [← hdx]; simp
    have i2 : (u : Int) / 2 ^ k = (y : Int) := by rw [← hy]; simp
    have i3 := u64_mask12 x (by omega)
    have i4 := u64_mask12 y (by omega)
    obtain ⟨xm, hxm⟩ : ∃ m, x % 4096 = m := ⟨_, rfl⟩
    obtain ⟨ym, hym⟩ : ∃ m, y % 4096 = m := ⟨_, rfl⟩
    have hxml : xm < 4096 := by omega
    have hyml : ym < 4096 := by omega
    rw [hxm] at i3 ⊢
    rw [hym] at i4 ⊢
    have HX := hide hex
    have HRA := hide hra
    clear hkk hx hdx hd hu hy hxl hyl hxm hym hp hd1 hd3 hex hra hr
    by_cases c1 : d = b
    · have d1 : ((d : Int) == b) = true := by rw [c1]; simp
      have C1 := hide c1
      clear c1
      go_enter Try.func28, Try.ntmps28
      go_wp2_with (first
        | (go_at_call 53; refine (right_yes b t _ h1 h2).mono ?_; rintro e' w' ⟨rfl, rfl⟩)
        | (go_at_call 54; refine (HX.out _).mono ?_; rintro e' w' ⟨rfl, rfl⟩)
        | (go_at_call 55; refine (HRA.out _).mono ?_; rintro e' w' ⟨rfl, rfl⟩))
      go_quiet (fail)
      go_wp2
      refine bodyPost_ret (results_tmp5 rfl _ _ _) rfl ⟨?_, _, rfl⟩
      have c := C1.out
      simp only [c, decide_true, Bool.true_and]
      exact ret5_bool (beq_cast u t)
    · have d1 : ((d : Int) == b) = false := by simp; omega
      have C1 := hide c1
      clear c1
      go_enter Try.func28, Try.ntmps28
      go_wp2_with (first
        | (go_at_call 53; refine (right_yes b t _ h1 h2).mono ?_; rintro e' w' ⟨rfl, rfl⟩)
        | (go_at_call 54; refine (HX.out _).mono ?_; rintro e' w' ⟨rfl, rfl⟩)
        | (go_at_call 55; refine (HRA.out _).mono ?_; rintro e' w' ⟨rfl, rfl⟩))
      go_quiet (fail)
      go_wp2
      refine bodyPost_ret (results_tmp5 rfl _ _ _) rfl ⟨?_, _, rfl⟩
      have c := C1.out
      simp only [c, decide_false, Bool.and_false, Bool.false_and]
      rfl
  · have hr' : rightN b t = false := by simpa using hr
    unfold encE encB encT encX
    rw [hr', if_neg (by simp), if_neg (by simp), if_neg (by simp)]
    have HR := hide hr'
    clear hr hr'
    go_enter Try.func28, Try.ntmps28
    go_wp2_with (go_at_call 53; refine (right_no b t _ hb ht HR.out).mono ?_; rintro e' w' ⟨rfl, rfl⟩)
    refine bodyPost_ret (results_tmp5 rfl _ _ _) rfl ⟨rfl, 0, rfl⟩
def padN (s : Nat) : Nat := if upN s (expoN 0 s) = 4294967296 then 0 else upN s (expoN 0 s)
def padA (s : Nat) : Nat := if upN s (expoN 0 s) = 4294967296 then 0 else 2 ^ expoN 0 s
theorem pad_any (s : Nat) (w : World) (hs : s < 4294967296) :
    Calls Try.prog 65 #[.int .u32 s] w fun e' w' => e' = .returned (.tuple #[.int .u32 (padN s), .int .u32 (padA s)]) ∧ ∃ m, w' = w.drewN m := by
  have hex := fun W => exponent_any 0 s W (by omega) (by omega) (by omega)
  have hk := expo_le 0 s
  have hra := fun W => rounded_any 0 s (expoN 0 s) W (by omega) (by omega) hk
  have hd0 : dnN 0 (expoN 0 s) = 0 := by unfold dnN; simp
  unfold padN padA
  obtain ⟨k, hkk⟩ : ∃ k, expoN 0 s = k := ⟨_, rfl⟩
  rw [hkk] at hk hex hra hd0 ⊢
  have hw := up_whole (t := s) hk (by omega)
  have hp := pow_le_21 hk
  obtain ⟨u, hu⟩ : ∃ u, upN s k = u := ⟨_, rfl⟩
  rw [hd0] at hra
  rw [hu] at hra hw ⊢
  have hpw : IntKind.u32.wrap ((2 : Int) ^ k) = ((2 ^ k : Nat) : Int) := by
    rw [IntKind.wrap_u32, show ((2 : Int) ^ k) = ((2 ^ k : Nat) : Int) by simp]
    generalize 2 ^ k = z at hp
    omega
  obtain ⟨p, hpp⟩ : ∃ p, 2 ^ k = p := ⟨_, rfl⟩
  rw [hpp] at hpw ⊢
  have HX := hide hex
  have HRA := hide hra
  clear hkk hex hra hu hd0 hpp hp
  by_cases c1 : u = 4294967296
  · rw [if_pos c1, if_pos c1]
    have d1 : ((u : Int) == 4294967296) = true := by rw [c1]; rfl
    clear c1
    go_enter Try.func65, Try.ntmps65
    go_wp2_with (first
        | (go_at_call 54; refine (HX.out _).mono ?_; rintro e' w' ⟨rfl, rfl⟩)
        | (go_at_call 55; refine (HRA.out _).mono ?_; rintro e' w' ⟨rfl, rfl⟩))
    go_ret2
    exact ⟨rfl, 0, rfl⟩
  · rw [if_neg c1, if_neg c1]
    have d1 : ((u : Int) == 4294967296) = false := by simp; omega
    have d2 : (u : Int) < 4294967296 := by omega
    clear c1
    go_enter Try.func65, Try.ntmps65
    go_wp2_with (first
        | (go_at_call 54; refine (HX.out _).mono ?_; rintro e' w' ⟨rfl, rfl⟩)
        | (go_at_call 55; refine (HRA.out _).mono ?_; rintro e' w' ⟨rfl, rfl⟩))
    go_quiet (fail)
    go_wp2
    go_ret2
    exact ⟨rfl, _, rfl⟩
end Go.Proofs.Ytdljpnebpoaeiaa
namespace Go.Proofs.Ytdljpnebpoaeiaa
set_option linter.unusedVariables false
set_option linter.unusedSimpArgs false
open Go.RowKit
theorem rrounded_any (b t e : Nat) (w : World) (hb : b < 4294967296) (ht : t ≤ 4294967296) (he : e ≤ 21) :
    Calls Try.prog 68 #[.int .u32 b, .int .u64 t, .int .u8 e] w fun e' w' => e' = .returned (.tuple #[.int .u64 (dnN b e), .int .u64 (upN t e)]) ∧ ∃ m, w' = w.drewN m := by
  have hp := pow_le_21 he
  have h0 := pow_pos2 e
  have hd1 := dn_le b e
  have hd3 := up_lt t e
  have hpw : IntKind.u64.wrap ((2 : Int) ^ e) = ((2 ^ e : Nat) : Int) := by
    rw [IntKind.wrap_u64, show ((2 : Int) ^ e) = ((2 ^ e : Nat) : Int) by simp]
    generalize 2 ^ e = z at hp
    omega
  unfold dnN at hd1 ⊢
  unfold upN at hd3 ⊢
  obtain ⟨U, hU⟩ : ∃ U, 2 ^ e = U := ⟨_, rfl⟩
  rw [hU] at hp h0 hpw hd1 hd3 ⊢
  obtain ⟨x, hx⟩ : ∃ x, b / U = x := ⟨_, rfl⟩
  obtain ⟨y, hy⟩ : ∃ y, (t + (U - 1)) / U = y := ⟨_, rfl⟩
  rw [hx] at hd1 ⊢
  rw [hy] at hd3 ⊢
  obtain ⟨d, hd⟩ : ∃ d, x * U = d := ⟨_, rfl⟩
  obtain ⟨u, hu⟩ : ∃ u, y * U = u := ⟨_, rfl⟩
  rw [hd] at hd1 ⊢
  rw [hu] at hd3 ⊢
  have r1 : (b : Int) / (U : Int) = (x : Int) := by rw [← hx]; simp
  have r2 : (t : Int) + U - 1 = ((t + (U - 1) : Nat) : Int) := by omega
  have r3 : IntKind.u64.wrap ((t : Int) + U) = (t : Int) + U := by rw [IntKind.wrap_u64]; omega
  have r4 : IntKind.u64.wrap ((t : Int) + U - 1) = ((t + (U - 1) : Nat) : Int) := by rw [IntKind.wrap_u64]; omega
  obtain ⟨s, hs⟩ : ∃ s, t + (U - 1) = s := ⟨_, rfl⟩
  rw [hs] at r2 r4 hy
  have r5 : (s : Int) / (U : Int) = (y : Int) := by rw [← hy]; simp
  have r6 : (x : Int) * (U : Int) = (d : Int) := by rw [← hd]; simp
  have r7 : (y : Int) * (U : Int) = (u : Int) := by rw [← hu]; simp
  have r8 : IntKind.u64.wrap (d : Int) = (d : Int) := by rw [IntKind.wrap_u64]; omega
  have r9 : IntKind.u64.wrap (u : Int) = (u : Int) := by rw [IntKind.wrap_u64]; omega
  have hne : ((U : Int) == 0) = false := by simp; omega
  have hxl : x ≤ 4294967295 := by rw [← hx]; exact Nat.le_trans (Nat.div_le_self _ _) (by omega)
  have hyl : y ≤ 4297064448 := by rw [← hy]; exact Nat.le_trans (Nat.div_le_self _ _) (by omega)
  clear hx hy hd hu hU hs
  go_enter Try.func68, Try.ntmps68
  go_wp2
  go_quiet (fail)
  go_wp2
  go_ret2
  exact ⟨rfl, _, rfl⟩
theorem expo_here {b t k : Nat} (hk : k ≤ 21) (hE : expoN b t = expoFrom b t (21 - k) k) (hf : fitsN b t k = true) : expoN b t = k := by
  rw [hE]
  rcases Nat.lt_or_ge k 21 with h | h
  · rw [show 21 - k = (20 - k) + 1 by omega, expoFrom, if_pos hf]
  · rw [show 21 - k = 0 by omega]; rfl
theorem rexponent_any (b t : Nat) (w : World) (hb : b < 4294967296) (hbt : b ≤ t) (ht : t ≤ 4294967296) :
    Calls Try.prog 67 #[.int .u32 b, .int .u64 t] w fun e' w' => e' = .returned (.int .u8 (expoN b t)) ∧ ∃ m, w' = w.drewN m := by
  go_enter Try.func67, Try.ntmps67
  go_wp2
  go_loopw [5] (fun i wr => ∃ k m : Nat, k ≤ 21 ∧ i = .int .u8 k ∧ Hid (expoN b t = expoFrom b t (21 - k) k) ∧ wr = w.drewN m) (fun i _ => (21 - intOf i).toNat)
  case atStart => exact ⟨0, 0, by omega, rfl, rfl, rfl⟩
  case round =>
    obtain ⟨k, m, hk, rfl, HE, rfl⟩ := hrel
    have hd1 := dn_le b k
    have hd2 := up_ge t k
    have hd3 := up_lt t k
    have hp := pow_le_21 hk
    have hle : dnN b k ≤ upN t k := by omega
    have hul : upN t k ≤ 4294967296 + 2097152 := by omega
    have hpw : IntKind.u64.wrap ((2048 : Int) * 2 ^ k) = ((2048 * 2 ^ k : Nat) : Int) := by
      rw [IntKind.wrap_u64, show ((2 : Int) ^ k) = ((2 ^ k : Nat) : Int) by simp]
      generalize 2 ^ k = z at hp
      omega
    obtain ⟨p, hpp⟩ : ∃ p, 2048 * 2 ^ k = p := ⟨_, rfl⟩
    obtain ⟨d, hd⟩ : ∃ d, dnN b k = d := ⟨_, rfl⟩
    obtain ⟨u, hu⟩ : ∃ u, upN t k = u := ⟨_, rfl⟩
    have hra := fun W => rrounded_any b t k W hb ht hk
    have HF : Hid (fitsN b t k = decide (u - d ≤ p)) := by show _ = _; unfold fitsN; rw [hpp, hd, hu]
    rw [hd, hu] at hra hle
    rw [hu] at hul
    rw [hpp] at hpw
    have HRA := hide hra
    clear hra hpp hd hu hd1 hd2 hd3 hp
    by_cases hf : (u : Int) - d ≤ p
    · go_wp2_with (go_at_call 68; refine (HRA.out _).mono ?_; rintro e' w' ⟨rfl, m2, rfl⟩)
      go_ret
      have hft : fitsN b t k = true := by rw [HF.out]; simp; omega
      exact ⟨ret_int (by rw [expo_here hk HE.out hft]), _, rfl⟩
    · have hft : fitsN b t k = false := by rw [HF.out]; simp; omega
      have h21 : k < 21 := by
        rcases Nat.lt_or_ge k 21 with h | h
        · exact h
        · obtain rfl : k = 21 := by omega
          rw [fits_21 ht] at hft; cases hft
      have HT : Hid (expoN b t = expoFrom b t (21 - (k + 1)) (k + 1)) := by
        show _ = _
        rw [HE.out, show 21 - k = (21 - (k + 1)) + 1 by omega, expoFrom, hft]; rfl
      clear hft
      go_wp2_with (go_at_call 68; refine (HRA.out _).mono ?_; rintro e' w' ⟨rfl, m2, rfl⟩)
      go_roundw
      case rel => exact ⟨k + 1, _, by omega, by go_num, HT, rfl⟩
      case measure => simp [intOf]; omega
theorem rencode_any (b t : Nat) (w : World) (hb : b < 4294967296) (ht : t < 18446744073709551616) :
    Calls Try.prog 58 #[.int .u32 b, .int .u64 t] w fun e' w' => e' = .returned (.tuple #[.int .u8 (encE b t), .int .u16 (encB b t), .int .u16 (encT b t), .bool (encX b t), .bool (rightN b t)]) ∧ ∃ m, w' = w.drewN m := by
  by_cases hr : rightN b t = true
  · obtain ⟨h1, h2⟩ := rightN_true hr
    unfold encE encB encT encX
    rw [hr, if_pos rfl, if_pos rfl, if_pos rfl]
    have hex := fun W => rexponent_any b t W hb h1 h2
    have hk := expo_le b t
    have hra := fun W => rrounded_any b t (expoN b t) W hb h2 hk
    obtain ⟨k, hkk⟩ : ∃ k, expoN b t = k := ⟨_, rfl⟩
    rw [hkk] at hk hex hra ⊢
    have hd1 := dn_le b k
    have hd3 := up_lt t k
    have hp := pow_le_21 hk
    have h0 := pow_pos2 k
    have hpw : IntKind.u64.wrap ((2 : Int) ^ k) = ((2 ^ k : Nat) : Int) := by
      rw [IntKind.wrap_u64, show ((2 : Int) ^ k) = ((2 ^ k : Nat) : Int) by simp]
      generalize 2 ^ k = z at hp
      omega
    obtain ⟨x, hx⟩ : ∃ x, b / 2 ^ k = x := ⟨_, rfl⟩
    have hdx := dn_div b k
    rw [hx] at hdx ⊢
    obtain ⟨d, hd⟩ : ∃ d, dnN b k = d := ⟨_, rfl⟩
    obtain ⟨u, hu⟩ : ∃ u, upN t k = u := ⟨_, rfl⟩
    rw [hd] at hdx hd1 hra ⊢
    rw [hu] at hd3 hra ⊢
    obtain ⟨y, hy⟩ : ∃ y, u / 2 ^ k = y := ⟨_, rfl⟩
    rw [hy]
    obtain ⟨U, hU⟩ : ∃ U, 2 ^ k = U := ⟨_, rfl⟩
    rw [hU] at hp h0 hpw hdx hy hx hd3
    have hxl : x < 4294967296 := by rw [← hx]; exact Nat.lt_of_le_of_lt (Nat.div_le_self _ _) hb
    have hyl : y ≤ 4297064448 := by rw [← hy]; exact Nat.le_trans (Nat.div_le_self _ _) (by omega)
    have i1 : (d : Int) / (U : Int) = (x : Int) := by rw [← hdx]; simp
    have i2 : (u : Int) / (U : Int) = (y : Int) := by rw [← hy]; simp
    have hne : ((U : Int) == 0) = false := by simp; omega
    obtain ⟨xm, hxm⟩ : ∃ m, x % 4096 = m := ⟨_, rfl⟩
    obtain ⟨ym, hym⟩ : ∃ m, y % 4096 = m := ⟨_, rfl⟩
    have hxml : xm < 4096 := by omega
    have hyml : ym < 4096 := by omega
    have i3 : (x : Int) % 4096 = (xm : Int) := by rw [← hxm]; simp
    have i4 : (y : Int) % 4096 = (ym : Int) := by rw [← hym]; simp
    rw [hxm, hym]
    have HX := hide hex
    have HRA := hide hra
    clear hkk hx hdx hd hu hy hxm hym hd1 hd3 hex hra hr hU
    have g1 : decide ((t : Int) < b) = false := by simp; omega
    have g2 : decide ((4294967296 : Int) < t) = false := by simp; omega
    by_cases c1 : d = b
    · have d1 : ((d : Int) == b) = true := by rw [c1]; simp
      have C1 := hide c1
      clear c1
      go_enter Try.func58, Try.ntmps58
      go_wp2_with (first
        | (go_at_call 67; refine (HX.out _).mono ?_; rintro e' w' ⟨rfl, m1, rfl⟩)
        | (go_at_call 68; refine (HRA.out _).mono ?_; rintro e' w' ⟨rfl, m2, rfl⟩))
      go_quiet (fail)
      go_wp2
      refine bodyPost_ret (results_tmp5 rfl _ _ _) rfl ⟨?_, _, World.drewN_drewN _ _ _⟩
      have c := C1.out
      simp only [c, decide_true, Bool.true_and]
      exact ret5_bool (beq_cast u t)
    · have d1 : ((d : Int) == b) = false := by simp; omega
      have C1 := hide c1
      clear c1
      go_enter Try.func58, Try.ntmps58
      go_wp2_with (first
        | (go_at_call 67; refine (HX.out _).mono ?_; rintro e' w' ⟨rfl, m1, rfl⟩)
        | (go_at_call 68; refine (HRA.out _).mono ?_; rintro e' w' ⟨rfl, m2, rfl⟩))
      go_quiet (fail)
      go_wp2
      refine bodyPost_ret (results_tmp5 rfl _ _ _) rfl ⟨?_, _, World.drewN_drewN _ _ _⟩
      have c := C1.out
      simp only [c, decide_false, Bool.and_false, Bool.false_and]
      rfl
  · have hr' : rightN b t = false := by simpa using hr
    unfold encE encB encT encX
    rw [hr', if_neg (by simp), if_neg (by simp), if_neg (by simp)]
    have hcase : (t : Int) < b ∨ ((b : Int) ≤ t ∧ (4294967296 : Int) < t) := by
      simp only [rightN, Bool.and_eq_false_iff, decide_eq_false_iff_not] at hr'; omega
    clear hr hr'
    rcases hcase with h1 | ⟨h1, h2⟩
    · go_enter Try.func58, Try.ntmps58
      go_wp2
      exact bodyPost_ret (results_tmp5 rfl _ _ _) rfl ⟨rfl, 0, rfl⟩
    · have g1 : decide ((t : Int) < b) = false := by simp; omega
      go_enter Try.func58, Try.ntmps58
      go_wp2
      exact bodyPost_ret (results_tmp5 rfl _ _ _) rfl ⟨rfl, 0, rfl⟩
theorem fits_zero (s k : Nat) : fitsN 0 s k = decide (upN s k ≤ 2048 * 2 ^ k) := by
  unfold fitsN
  have : dnN 0 k = 0 := by unfold dnN; simp
  rw [this, Nat.sub_zero]
theorem rpad_any (s : Nat) (w : World) (hs : s < 4294967296) :
    Calls Try.prog 66 #[.int .u32 s] w fun e' w' => e' = .returned (.tuple #[.int .u32 (padN s), .int .u32 (padA s)]) ∧ ∃ m, w' = w.drewN m := by
  go_enter Try.func66, Try.ntmps66
  go_wp2
  go_loopw [4] (fun i wr => ∃ k m : Nat, k ≤ 21 ∧ i = .int .u8 k ∧ Hid (expoN 0 s = expoFrom 0 s (21 - k) k) ∧ wr = w.drewN m) (fun i _ => (21 - intOf i).toNat)
  case atStart => exact ⟨0, 0, by omega, rfl, rfl, rfl⟩
  case round =>
    obtain ⟨k, m, hk, rfl, HE, rfl⟩ := hrel
    have hd3 := up_whole (t := s) hk (by omega)
    have hp := pow_le_21 hk
    have hpw : IntKind.u64.wrap ((2048 : Int) * 2 ^ k) = ((2048 * 2 ^ k : Nat) : Int) := by
      rw [IntKind.wrap_u64, show ((2 : Int) ^ k) = ((2 ^ k : Nat) : Int) by simp]
      generalize 2 ^ k = z at hp
      omega
    have hpw2 : IntKind.u32.wrap ((2 : Int) ^ k) = ((2 ^ k : Nat) : Int) := by
      rw [IntKind.wrap_u32, show ((2 : Int) ^ k) = ((2 ^ k : Nat) : Int) by simp]
      generalize 2 ^ k = z at hp
      omega
    have hz := fits_zero s k
    obtain ⟨p, hpp⟩ : ∃ p, 2048 * 2 ^ k = p := ⟨_, rfl⟩
    obtain ⟨U, hU⟩ : ∃ U, 2 ^ k = U := ⟨_, rfl⟩
    obtain ⟨u, hu⟩ : ∃ u, upN s k = u := ⟨_, rfl⟩
    have hra := fun W => rrounded_any 0 s k W (by omega) (by omega) hk
    rw [hpp, hu] at hz
    rw [hu] at hra hd3
    rw [show dnN 0 k = 0 by unfold dnN; simp] at hra
    rw [hpp] at hpw
    rw [hU] at hpw2
    have HRA := hide hra
    have HZ := hide hz
    have HU := hide hU
    have HU2 := hide hu
    clear hra hpp hu hU hz hp
    by_cases hf : (u : Int) ≤ p
    · have hft : fitsN 0 s k = true := by rw [HZ.out]; simp; omega
      have hEk := expo_here hk HE.out hft
      have HK : Hid (padN s = (if u = 4294967296 then 0 else u) ∧ padA s = (if u = 4294967296 then 0 else U)) := by
        show _ ∧ _
        unfold padN padA; rw [hEk, HU2.out, HU.out]; exact ⟨rfl, rfl⟩
      clear hft hEk
      by_cases c1 : u = 4294967296
      · have d1 : ((u : Int) == 4294967296) = true := by rw [c1]; rfl
        have C1 := hide c1
        clear c1
        go_wp2_with (go_at_call 68; refine (HRA.out _).mono ?_; rintro e' w' ⟨rfl, m2, rfl⟩)
        go_ret2
        refine ⟨ret2_both ?_ ?_, _, rfl⟩
        · rw [HK.out.1, if_pos C1.out]; rfl
        · rw [HK.out.2, if_pos C1.out]; rfl
      · have d1 : ((u : Int) == 4294967296) = false := by simp; omega
        have d2 : (u : Int) < 4294967296 := by omega
        have C1 := hide c1
        clear c1
        go_wp2_with (go_at_call 68; refine (HRA.out _).mono ?_; rintro e' w' ⟨rfl, m2, rfl⟩)
        go_ret2
        refine ⟨ret2_both ?_ ?_, _, rfl⟩
        · rw [HK.out.1, if_neg C1.out]
        · rw [HK.out.2, if_neg C1.out]
    · have hft : fitsN 0 s k = false := by rw [HZ.out]; simp; omega
      have h21 : k < 21 := by
        rcases Nat.lt_or_ge k 21 with h | h
        · exact h
        · obtain rfl : k = 21 := by omega
          rw [fits_21 (by omega)] at hft; cases hft
      have HT : Hid (expoN 0 s = expoFrom 0 s (21 - (k + 1)) (k + 1)) := by
        show _ = _
        rw [HE.out, show 21 - k = (21 - (k + 1)) + 1 by omega, expoFrom, hft]; rfl
      clear hft
      go_wp2_with (go_at_call 68; refine (HRA.out _).mono ?_; rintro e' w' ⟨rfl, m2, rfl⟩)
      go_roundw
      case rel => exact ⟨k + 1, _, by omega, by go_num, HT, rfl⟩
      case measure => simp [intOf]; omega
end Go.Proofs.Ytdljpnebpoaeiaa
namespace Go.Proofs.Ytdljpnebpoaeiaa
set_option linter.unusedVariables false
set_option linter.unusedSimpArgs false
open Go.RowKit
open Sy
def boolsOf (l : List Value) : List Bool := l.map boolOf'
def selNone : SelC := fun f args s => bif Nat.beq f 23 then
  match args with
  | [.slice (some a) _ cap] => (Sy.look s.h a.block).map fun k => (noneC (boolsOf k.cells) cap, [a.block], Nat.blt cap big = true ∧ (boolsOf k.cells).length < 9000000000000000000)
  | _ => none
  else none
theorem selNone_ok : SelOk Try.prog 3 selNone := by
  intro f args s c ρ q h hq
  unfold selNone at h
  obtain ⟨h1, h⟩ := bif_some h
  have h1 := Nat.eq_of_beq_eq_true h1
  subst h1
  split at h
  · obtain ⟨k, _, h⟩ := Option.map_eq_some_iff.1 h
    simp only [Prod.mk.injEq] at h
    obtain ⟨rfl, rfl, rfl⟩ := h
    exact none_ok _ _ hq.1 hq.2
  · cases h
def inU32 (x : Int) : Prop := 0 ≤ x ∧ x < 4294967296
def inU64 (x : Int) : Prop := 0 ≤ x ∧ x < 18446744073709551616
def padC (x : Int) : Con := Con.pure [.int .u32 x] (.tuple ⟨[.int .u32 (padN x.toNat : Nat), .int .u32 (padA x.toNat : Nat)]⟩)
def encC (b t : Int) : Con := Con.pure [.int .u32 b, .int .u64 t] (.tuple ⟨[.int .u8 (encE b.toNat t.toNat : Nat), .int .u16 (encB b.toNat t.toNat : Nat), .int .u16 (encT b.toNat t.toNat : Nat), .bool (encX b.toNat t.toNat), .bool (rightN b.toNat t.toNat)]⟩)
def selBnd : SelC := fun f args _ =>
  match args with
  | [.int _ x] => bif Nat.beq f 65 then some (padC x, [], inU32 x) else bif Nat.beq f 66 then some (padC x, [], inU32 x) else none
  | [.int _ b, .int _ t] => bif Nat.beq f 28 then some (encC b t, [], inU32 b ∧ inU64 t) else bif Nat.beq f 58 then some (encC b t, [], inU32 b ∧ inU64 t) else none
  | _ => none
theorem below_n {w w' : World} (h : ∃ m, w' = w.drewN m) : Below w.heap.size w w' := by
  obtain ⟨m, rfl⟩ := h
  exact below_drewN (Below.refl _ _) m
theorem padC_ok {f : FuncId} (he : Enters Try.prog f) (h : ∀ (s : Nat) (w : World), s < 4294967296 → Calls Try.prog f #[.int .u32 s] w fun e' w' => e' = .returned (.tuple #[.int .u32 (padN s), .int .u32 (padA s)]) ∧ ∃ m, w' = w.drewN m) (x : Int) (hx : inU32 x) : ConOk Try.prog f 3 (padC x) := by
  refine conOk_pure he (fun u hu => ?_) rfl fun w => ?_
  · obtain rfl := List.mem_singleton.1 hu; rfl
  · have := h x.toNat w (by have := hx.1; have := hx.2; omega)
    rw [show ((x.toNat : Nat) : Int) = x from Int.toNat_of_nonneg hx.1] at this
    exact this.mono fun _ _ ⟨a, b⟩ => ⟨a, below_n b⟩
theorem encC_ok {f : FuncId} (he : Enters Try.prog f) (h : ∀ (b t : Nat) (w : World), b < 4294967296 → t < 18446744073709551616 → Calls Try.prog f #[.int .u32 b, .int .u64 t] w fun e' w' => e' = .returned (.tuple #[.int .u8 (encE b t), .int .u16 (encB b t), .int .u16 (encT b t), .bool (encX b t), .bool (rightN b t)]) ∧ ∃ m, w' = w.drewN m)
    (b t : Int) (hb : inU32 b) (ht : inU64 t) : ConOk Try.prog f 3 (encC b t) := by
  refine conOk_pure he (fun u hu => ?_) rfl fun w => ?_
  · rcases List.mem_cons.1 hu with rfl | hu
    · rfl
    · obtain rfl := List.mem_singleton.1 hu; rfl
  · have := h b.toNat t.toNat w (by have := hb.1; have := hb.2; omega) (by have := ht.1; have := ht.2; omega)
    rw [show ((b.toNat : Nat) : Int) = b from Int.toNat_of_nonneg hb.1, show ((t.toNat : Nat) : Int) = t from Int.toNat_of_nonneg ht.1] at this
    exact this.mono fun _ _ ⟨a, b⟩ => ⟨a, below_n b⟩
theorem selBnd_ok : SelOk Try.prog 3 selBnd := by
  intro f args s c ρ q h hq
  unfold selBnd at h
  split at h
  · rename_i k x
    cases h1 : Nat.beq f 65 <;> rw [h1] at h
    · simp only [cond_false] at h
      obtain ⟨h2, h⟩ := bif_some h
      have h2 := Nat.eq_of_beq_eq_true h2
      subst h2
      cases h
      exact padC_ok (enters_b i_names (by kernel_rfl)) (fun s w hs => rpad_any s w hs) x hq
    · cases h
      have h1 := Nat.eq_of_beq_eq_true h1
      subst h1
      exact padC_ok (enters_b i_names (by kernel_rfl)) (fun s w hs => pad_any s w hs) x hq
  · rename_i k b k' t
    cases h1 : Nat.beq f 28 <;> rw [h1] at h
    · simp only [cond_false] at h
      obtain ⟨h2, h⟩ := bif_some h
      have h2 := Nat.eq_of_beq_eq_true h2
      subst h2
      cases h
      exact encC_ok (enters_b i_names (by kernel_rfl)) (fun b t w hb ht => rencode_any b t w hb ht) b t hq.1 hq.2
    · cases h
      have h1 := Nat.eq_of_beq_eq_true h1
      subst h1
      exact encC_ok (enters_b i_names (by kernel_rfl)) (fun b t w hb ht => encode_any b t w hb ht) b t hq.1 hq.2
  · cases h
def selI : SelC := selOr selNone selBnd
theorem selI_ok : SelOk Try.prog 3 selI := selOr_ok selNone_ok selBnd_ok
end Go.Proofs.Ytdljpnebpoaeiaa
namespace Go.Proofs.Ytdljpnebpoaeiaa
set_option linter.unusedVariables false
set_option linter.unusedSimpArgs false
open Go.RowKit
theorem up_mul (a k j : Nat) (h : j ≤ k) : upN (a * 2 ^ k) j = a * 2 ^ k := by
  refine Nat.le_antisymm ?_ (up_ge _ _)
  have e : a * 2 ^ k = a * 2 ^ (k - j) * 2 ^ j := by rw [Nat.mul_assoc, ← Nat.pow_add, Nat.sub_add_cancel h]
  rw [e]
  exact up_least (Nat.le_refl _)
end Go.Proofs.Ytdljpnebpoaeiaa
namespace Go.Proofs.Ytdljpnebpoaeiaa
set_option linter.unusedVariables false
set_option linter.unusedSimpArgs false
open Go.RowKit
open Sy
theorem sized_r (n : Int) : obs (evF Try.prog (baseC 3 selI) noLoop 100 10 52 [Value.int IntKind.i64 n] (stT [])) = some (Value.tuple { toList := [Value.int IntKind.u32 (↑(padN (bits BinOp.andNot IntKind.u32 (IntKind.u32.wrap (IntKind.i64.wrap (IntKind.i64.wrap (n + (256 : Int)) - (1 : Int)))) (255 : Int)).toNat) : Int), Value.int IntKind.u32 (if (256 : Int) > (↑(padA (bits BinOp.andNot IntKind.u32 (IntKind.u32.wrap (IntKind.i64.wrap (IntKind.i64.wrap (n + (256 : Int)) - (1 : Int)))) (255 : Int)).toNat) : Int) then (256 : Int) else (↑(padA (bits BinOp.andNot IntKind.u32 (IntKind.u32.wrap (IntKind.i64.wrap (IntKind.i64.wrap (n + (256 : Int)) - (1 : Int)))) (255 : Int)).toNat) : Int))] }, True ∧ ((0 : Int) ≤ bits BinOp.andNot IntKind.u32 (IntKind.u32.wrap (IntKind.i64.wrap (IntKind.i64.wrap (n + (256 : Int)) - (1 : Int)))) (255 : Int) ∧ bits BinOp.andNot IntKind.u32 (IntKind.u32.wrap (IntKind.i64.wrap (IntKind.i64.wrap (n + (256 : Int)) - (1 : Int)))) (255 : Int) < (4294967296 : Int)) ∧ (Value.int IntKind.u32 (bits BinOp.andNot IntKind.u32 (IntKind.u32.wrap (IntKind.i64.wrap (IntKind.i64.wrap (n + (256 : Int)) - (1 : Int)))) (255 : Int)) = Value.int IntKind.u32 (bits BinOp.andNot IntKind.u32 (IntKind.u32.wrap (IntKind.i64.wrap (IntKind.i64.wrap (n + (256 : Int)) - (1 : Int)))) (255 : Int)) ∧ True) ∧ True ∧ True) := by kernel_rfl
theorem rsized_r (n : Int) : obs (evF Try.prog (baseC 3 selI) noLoop 100 10 56 [Value.int IntKind.u32 n] (stT [])) = some (Value.tuple { toList := [Value.int IntKind.u32 (↑(padN (IntKind.u32.wrap (IntKind.u32.wrap ((IntKind.u32.wrap (IntKind.u32.wrap (n + (256 : Int)) - (1 : Int))).tdiv (256 : Int)) * (256 : Int))).toNat) : Int), Value.int IntKind.u32 (if (256 : Int) > (↑(padA (IntKind.u32.wrap (IntKind.u32.wrap ((IntKind.u32.wrap (IntKind.u32.wrap (n + (256 : Int)) - (1 : Int))).tdiv (256 : Int)) * (256 : Int))).toNat) : Int) then (256 : Int) else (↑(padA (IntKind.u32.wrap (IntKind.u32.wrap ((IntKind.u32.wrap (IntKind.u32.wrap (n + (256 : Int)) - (1 : Int))).tdiv (256 : Int)) * (256 : Int))).toNat) : Int))] }, True ∧ ((0 : Int) ≤ IntKind.u32.wrap (IntKind.u32.wrap ((IntKind.u32.wrap (IntKind.u32.wrap (n + (256 : Int)) - (1 : Int))).tdiv (256 : Int)) * (256 : Int)) ∧ IntKind.u32.wrap (IntKind.u32.wrap ((IntKind.u32.wrap (IntKind.u32.wrap (n + (256 : Int)) - (1 : Int))).tdiv (256 : Int)) * (256 : Int)) < (4294967296 : Int)) ∧ (Value.int IntKind.u32 (IntKind.u32.wrap (IntKind.u32.wrap ((IntKind.u32.wrap (IntKind.u32.wrap (n + (256 : Int)) - (1 : Int))).tdiv (256 : Int)) * (256 : Int))) = Value.int IntKind.u32 (IntKind.u32.wrap (IntKind.u32.wrap ((IntKind.u32.wrap (IntKind.u32.wrap (n + (256 : Int)) - (1 : Int))).tdiv (256 : Int)) * (256 : Int))) ∧ True) ∧ True ∧ True) := by kernel_rfl
theorem and_high32 (a e : Nat) (ha : a < 4294967296) (he : e ≤ 32) : a &&& (4294967295 - (2 ^ e - 1)) = a / 2 ^ e * 2 ^ e := by
  have h0 := pow_pos2 e
  have h2 : 2 ^ e ≤ 2 ^ 32 := Nat.pow_le_pow_right (by omega) he
  have h1 : 4294967295 - (2 ^ e - 1) = 2 ^ 32 - ((2 ^ e - 1) + 1) := by omega
  rw [h1]
  apply Nat.eq_of_testBit_eq
  intro i
  rw [Nat.testBit_and, Nat.testBit_two_pow_sub_succ (by omega), Nat.testBit_two_pow_sub_one, Nat.testBit_mul_two_pow, Nat.testBit_div_two_pow]
  by_cases hi : e ≤ i
  · rw [Nat.sub_add_cancel hi]
    have e1 : decide (i < e) = false := by simp; omega
    have e2 : decide (e ≤ i) = true := by simpa using hi
    rw [e1, e2]
    by_cases h64 : i < 32
    · have e3 : decide (i < 32) = true := by simpa using h64
      rw [e3]; simp
    · have : a.testBit i = false := Nat.testBit_lt_two_pow (Nat.lt_of_lt_of_le ha (Nat.pow_le_pow_right (n := 2) (by omega) (show 32 ≤ i by omega)))
      rw [this]; simp
  · have e1 : decide (i < e) = true := by simp; omega
    have e2 : decide (e ≤ i) = false := by simpa using hi
    rw [e1, e2]; simp
theorem struck (a e : Nat) (ha : a < 4294967296) (he : e ≤ 31) : bits .andNot .u32 (a : Int) (((2 ^ e - 1 : Nat)) : Int) = ((a / 2 ^ e * 2 ^ e : Nat) : Int) := by
  have h2 : 2 ^ e ≤ 2 ^ 31 := Nat.pow_le_pow_right (by omega) he
  rw [u32_andNot_nat a (2 ^ e - 1) ha (by omega), and_high32 a e ha (by omega)]
def r256 (n : Nat) : Nat := (n + 255) / 256 * 256
theorem sized_in (n : Nat) (h : n ≤ 1000000) : bits .andNot .u32 (IntKind.u32.wrap (IntKind.i64.wrap (IntKind.i64.wrap ((n : Int) + 256) - 1))) 255 = ((r256 n : Nat) : Int) := by
  have e1 : IntKind.u32.wrap (IntKind.i64.wrap (IntKind.i64.wrap ((n : Int) + 256) - 1)) = ((n + 255 : Nat) : Int) := by
    rw [wrap_i64 (x := (n : Int) + 256) (by omega) (by omega), wrap_i64 (by omega) (by omega), IntKind.wrap_u32]; omega
  rw [e1]
  exact struck (n + 255) 8 (by omega) (by omega)
theorem rsized_in (n : Nat) (h : n ≤ 1000000) : IntKind.u32.wrap (IntKind.u32.wrap ((IntKind.u32.wrap (IntKind.u32.wrap ((n : Int) + 256) - 1)).tdiv 256) * 256) = ((r256 n : Nat) : Int) := by
  have e1 : IntKind.u32.wrap (IntKind.u32.wrap ((n : Int) + 256) - 1) = ((n + 255 : Nat) : Int) := by
    rw [IntKind.wrap_u32, IntKind.wrap_u32]; omega
  rw [e1, show ((256 : Int)) = ((256 : Nat) : Int) from rfl, ← Int.ofNat_tdiv, IntKind.wrap_u32, IntKind.wrap_u32]
  unfold r256; omega
theorem max_in (a : Nat) : (if (256 : Int) > (a : Int) then (256 : Int) else (a : Int)) = ((max a 256 : Nat) : Int) := by split <;> omega
theorem pad_256 (n : Nat) (h : n ≤ 100000) : padN (r256 n) = r256 n ∧ max (padA (r256 n)) 256 = 256 := by
  have hs : r256 n ≤ 100352 := by unfold r256; omega
  have he : expoN 0 (r256 n) ≤ 6 := by
    rcases Nat.lt_or_ge 6 (expoN 0 (r256 n)) with hlt | hge
    · have := expo_least hlt
      unfold fitsN at this
      have h1 := up_lt (r256 n) 6
      have h2 := dn_le 0 6
      simp only [decide_eq_false_iff_not] at this
      omega
    · exact hge
  have hu : upN (r256 n) (expoN 0 (r256 n)) = r256 n := by
    have := up_mul ((n + 255) / 256) 8 (expoN 0 (r256 n)) (by omega)
    exact this
  have hp : 2 ^ expoN 0 (r256 n) ≤ 2 ^ 6 := Nat.pow_le_pow_right (by omega) he
  unfold padN padA
  rw [hu, if_neg (by omega), if_neg (by omega)]
  exact ⟨rfl, by omega⟩
def sizedV (x : Int) : Value := .tuple ⟨[.int .u32 (r256 x.toNat : Nat), .int .u32 256]⟩
def sizedC (x : Int) : Con := Con.pure [.int .i64 x] (sizedV x)
def rsizedC (x : Int) : Con := Con.pure [.int .u32 x] (sizedV x)
def szOk (x : Int) : Prop := 0 ≤ x ∧ x ≤ 100000
theorem sizedC_ok (x : Int) (h : szOk x) : ConOk Try.prog 52 3 (sizedC x) := by
  obtain ⟨n, rfl⟩ := Int.eq_ofNat_of_zero_le h.1
  have hn : n ≤ 100000 := by have := h.2; omega
  have hr := sized_r (n : Int)
  rw [sized_in n (by omega), Int.toNat_natCast, max_in, (pad_256 n hn).1, (pad_256 n hn).2] at hr
  refine pure_run (run_ok i_names (baseC_ok selI_ok) (noLoop_ok _) 10) hr ?_ rfl rfl
  exact ⟨trivial, ⟨by omega, by unfold r256; omega⟩, ⟨rfl, trivial⟩, trivial, trivial⟩
theorem rsizedC_ok (x : Int) (h : szOk x) : ConOk Try.prog 56 3 (rsizedC x) := by
  obtain ⟨n, rfl⟩ := Int.eq_ofNat_of_zero_le h.1
  have hn : n ≤ 100000 := by have := h.2; omega
  have hr := rsized_r (n : Int)
  rw [rsized_in n (by omega), Int.toNat_natCast, max_in, (pad_256 n hn).1, (pad_256 n hn).2] at hr
  refine pure_run (run_ok i_names (baseC_ok selI_ok) (noLoop_ok _) 10) hr ?_ rfl rfl
  exact ⟨trivial, ⟨by omega, by unfold r256; omega⟩, ⟨rfl, trivial⟩, trivial, trivial⟩
def selSz : SelC := fun f args _ =>
  match args with
  | [.int _ x] => bif Nat.beq f 52 then some (sizedC x, [], szOk x) else bif Nat.beq f 56 then some (rsizedC x, [], szOk x) else none
  | _ => none
theorem selSz_ok : SelOk Try.prog 3 selSz := by
  intro f args s c ρ q h hq
  unfold selSz at h
  split at h
  · rename_i k x
    cases h1 : Nat.beq f 52 <;> rw [h1] at h
    · simp only [cond_false] at h
      obtain ⟨h2, h⟩ := bif_some h
      have h2 := Nat.eq_of_beq_eq_true h2
      subst h2
      cases h
      exact rsizedC_ok x hq
    · cases h
      have h1 := Nat.eq_of_beq_eq_true h1
      subst h1
      exact sizedC_ok x hq
  · cases h
def selJ : SelC := selOr selSz selI
theorem selJ_ok : SelOk Try.prog 3 selJ := selOr_ok selSz_ok selI_ok
end Go.Proofs.Ytdljpnebpoaeiaa
namespace Go.Proofs.Ytdljpnebpoaeiaa
set_option linter.unusedVariables false
set_option linter.unusedSimpArgs false
open Go.RowKit
open Sy
theorem layout_big (pages : Int) (stack : Int) (types : Int) (nc : Nat) (nr : Nat) (ns : Nat) (data : List UInt8) : evF Try.prog (baseC 3 selJ) noLoop 100 10 26 [imgV pages stack types nc nr ns data] { n := 67, h := [], lo := [], esc := 0, T := [(0, true)], k := 0, O := True : St } = some (Value.tuple { toList := [Value.agg { toList := [Value.int IntKind.u32 (0 : Int), Value.int IntKind.u32 (0 : Int), Value.int IntKind.u32 (0 : Int), Value.int IntKind.u32 (0 : Int), Value.int IntKind.u32 (0 : Int), Value.int IntKind.u32 (0 : Int), Value.int IntKind.u32 (0 : Int), Value.int IntKind.u32 (0 : Int)] }, Value.bool false] }, { n := 77, h := [], lo := [], esc := 0, T := [], k := 1, O := ((True ∧ ((0 : Int) ≤ IntKind.i64.wrap ((4 : Int) * (↑nc : Int)) ∧ IntKind.i64.wrap ((4 : Int) * (↑nc : Int)) ≤ (100000 : Int)) ∧ (Value.int IntKind.i64 (IntKind.i64.wrap ((4 : Int) * (↑nc : Int))) = Value.int IntKind.i64 (IntKind.i64.wrap ((4 : Int) * (↑nc : Int))) ∧ True) ∧ True ∧ True) ∧ ((0 : Int) ≤ (↑(lenT data) : Int) ∧ (↑(lenT data) : Int) ≤ (100000 : Int)) ∧ (Value.int IntKind.i64 (↑(lenT data) : Int) = Value.int IntKind.i64 (↑(lenT data) : Int) ∧ True) ∧ True ∧ True) ∧ decide (IntKind.u32.wrap (IntKind.u32.wrap (bits BinOp.andNot IntKind.u32 (IntKind.u32.wrap (IntKind.u32.wrap (IntKind.u32.wrap (bits BinOp.andNot IntKind.u32 (IntKind.u32.wrap (IntKind.u32.wrap (IntKind.u32.wrap ((0 : Int) + (↑(r256 (IntKind.i64.wrap ((4 : Int) * (↑nc : Int))).toNat) : Int)) + (256 : Int)) - (1 : Int))) (255 : Int) + (↑(r256 (↑(lenT data) : Int).toNat) : Int)) + (256 : Int)) - (1 : Int))) (255 : Int) + IntKind.u32.wrap (IntKind.i64.wrap (stack * (↑ns : Int)))) + (256 : Int)) > IntKind.u32.wrap (IntKind.u32.wrap pages * (256 : Int))) = true : St }) := by kernel_rfl
theorem layout_ok (pages : Int) (stack : Int) (types : Int) (nc : Nat) (nr : Nat) (ns : Nat) (data : List UInt8) : evF Try.prog (baseC 3 selJ) noLoop 100 10 26 [imgV pages stack types nc nr ns data] { n := 67, h := [], lo := [], esc := 0, T := [(0, false)], k := 0, O := True : St } = some (Value.tuple { toList := [Value.agg { toList := [Value.int IntKind.u32 (0 : Int), Value.int IntKind.u32 (↑(r256 (IntKind.i64.wrap ((4 : Int) * (↑nc : Int))).toNat) : Int), Value.int IntKind.u32 (bits BinOp.andNot IntKind.u32 (IntKind.u32.wrap (IntKind.u32.wrap (IntKind.u32.wrap ((0 : Int) + (↑(r256 (IntKind.i64.wrap ((4 : Int) * (↑nc : Int))).toNat) : Int)) + (256 : Int)) - (1 : Int))) (255 : Int)), Value.int IntKind.u32 (↑(r256 (↑(lenT data) : Int).toNat) : Int), Value.int IntKind.u32 (bits BinOp.andNot IntKind.u32 (IntKind.u32.wrap (IntKind.u32.wrap (IntKind.u32.wrap (bits BinOp.andNot IntKind.u32 (IntKind.u32.wrap (IntKind.u32.wrap (IntKind.u32.wrap ((0 : Int) + (↑(r256 (IntKind.i64.wrap ((4 : Int) * (↑nc : Int))).toNat) : Int)) + (256 : Int)) - (1 : Int))) (255 : Int) + (↑(r256 (↑(lenT data) : Int).toNat) : Int)) + (256 : Int)) - (1 : Int))) (255 : Int)), Value.int IntKind.u32 (IntKind.u32.wrap (IntKind.i64.wrap (stack * (↑ns : Int)))), Value.int IntKind.u32 (bits BinOp.andNot IntKind.u32 (IntKind.u32.wrap (IntKind.u32.wrap (IntKind.u32.wrap (bits BinOp.andNot IntKind.u32 (IntKind.u32.wrap (IntKind.u32.wrap (IntKind.u32.wrap (bits BinOp.andNot IntKind.u32 (IntKind.u32.wrap (IntKind.u32.wrap (IntKind.u32.wrap ((0 : Int) + (↑(r256 (IntKind.i64.wrap ((4 : Int) * (↑nc : Int))).toNat) : Int)) + (256 : Int)) - (1 : Int))) (255 : Int) + (↑(r256 (↑(lenT data) : Int).toNat) : Int)) + (256 : Int)) - (1 : Int))) (255 : Int) + IntKind.u32.wrap (IntKind.i64.wrap (stack * (↑ns : Int)))) + (256 : Int)) - (1 : Int))) (255 : Int)), Value.int IntKind.u32 (IntKind.u32.wrap (IntKind.u32.wrap (IntKind.u32.wrap pages * (256 : Int)) - IntKind.u32.wrap (bits BinOp.andNot IntKind.u32 (IntKind.u32.wrap (IntKind.u32.wrap (IntKind.u32.wrap (bits BinOp.andNot IntKind.u32 (IntKind.u32.wrap (IntKind.u32.wrap (IntKind.u32.wrap ((0 : Int) + (↑(r256 (IntKind.i64.wrap ((4 : Int) * (↑nc : Int))).toNat) : Int)) + (256 : Int)) - (1 : Int))) (255 : Int) + (↑(r256 (↑(lenT data) : Int).toNat) : Int)) + (256 : Int)) - (1 : Int))) (255 : Int) + IntKind.u32.wrap (IntKind.i64.wrap (stack * (↑ns : Int))))))] }, Value.bool true] }, { n := 79, h := [], lo := [], esc := 0, T := [], k := 1, O := ((True ∧ ((0 : Int) ≤ IntKind.i64.wrap ((4 : Int) * (↑nc : Int)) ∧ IntKind.i64.wrap ((4 : Int) * (↑nc : Int)) ≤ (100000 : Int)) ∧ (Value.int IntKind.i64 (IntKind.i64.wrap ((4 : Int) * (↑nc : Int))) = Value.int IntKind.i64 (IntKind.i64.wrap ((4 : Int) * (↑nc : Int))) ∧ True) ∧ True ∧ True) ∧ ((0 : Int) ≤ (↑(lenT data) : Int) ∧ (↑(lenT data) : Int) ≤ (100000 : Int)) ∧ (Value.int IntKind.i64 (↑(lenT data) : Int) = Value.int IntKind.i64 (↑(lenT data) : Int) ∧ True) ∧ True ∧ True) ∧ decide (IntKind.u32.wrap (IntKind.u32.wrap (bits BinOp.andNot IntKind.u32 (IntKind.u32.wrap (IntKind.u32.wrap (IntKind.u32.wrap (bits BinOp.andNot IntKind.u32 (IntKind.u32.wrap (IntKind.u32.wrap (IntKind.u32.wrap ((0 : Int) + (↑(r256 (IntKind.i64.wrap ((4 : Int) * (↑nc : Int))).toNat) : Int)) + (256 : Int)) - (1 : Int))) (255 : Int) + (↑(r256 (↑(lenT data) : Int).toNat) : Int)) + (256 : Int)) - (1 : Int))) (255 : Int) + IntKind.u32.wrap (IntKind.i64.wrap (stack * (↑ns : Int)))) + (256 : Int)) > IntKind.u32.wrap (IntKind.u32.wrap pages * (256 : Int))) = false : St }) := by kernel_rfl
theorem rlayout_big (pages : Int) (stack : Int) (types : Int) (nc : Nat) (nr : Nat) (ns : Nat) (data : List UInt8) : evF Try.prog (baseC 3 selJ) noLoop 100 10 29 [imgV pages stack types nc nr ns data] { n := 67, h := [], lo := [], esc := 0, T := [(0, true)], k := 0, O := True : St } = some (Value.tuple { toList := [Value.agg { toList := [Value.int IntKind.u32 (0 : Int), Value.int IntKind.u32 (0 : Int), Value.int IntKind.u32 (0 : Int), Value.int IntKind.u32 (0 : Int), Value.int IntKind.u32 (0 : Int), Value.int IntKind.u32 (0 : Int), Value.int IntKind.u32 (0 : Int), Value.int IntKind.u32 (0 : Int)] }, Value.bool false] }, { n := 70, h := [], lo := [], esc := 0, T := [], k := 1, O := ((True ∧ ((0 : Int) ≤ IntKind.u32.wrap ((4 : Int) * IntKind.u32.wrap (↑nc : Int)) ∧ IntKind.u32.wrap ((4 : Int) * IntKind.u32.wrap (↑nc : Int)) ≤ (100000 : Int)) ∧ (Value.int IntKind.u32 (IntKind.u32.wrap ((4 : Int) * IntKind.u32.wrap (↑nc : Int))) = Value.int IntKind.u32 (IntKind.u32.wrap ((4 : Int) * IntKind.u32.wrap (↑nc : Int))) ∧ True) ∧ True ∧ True) ∧ ((0 : Int) ≤ IntKind.u32.wrap (↑(lenT data) : Int) ∧ IntKind.u32.wrap (↑(lenT data) : Int) ≤ (100000 : Int)) ∧ (Value.int IntKind.u32 (IntKind.u32.wrap (↑(lenT data) : Int)) = Value.int IntKind.u32 (IntKind.u32.wrap (↑(lenT data) : Int)) ∧ True) ∧ True ∧ True) ∧ decide (IntKind.u32.wrap (IntKind.u32.wrap (IntKind.u32.wrap (IntKind.u32.wrap (IntKind.u32.wrap ((IntKind.u32.wrap (IntKind.u32.wrap ((↑(r256 (IntKind.u32.wrap ((4 : Int) * IntKind.u32.wrap (↑nc : Int))).toNat) : Int) + (256 : Int)) - (1 : Int))).tdiv (256 : Int)) * (256 : Int)) + (↑(r256 (IntKind.u32.wrap (↑(lenT data) : Int)).toNat) : Int)) + IntKind.u32.wrap (IntKind.i64.wrap (stack * (↑ns : Int)))) + (256 : Int)) > IntKind.u32.wrap (IntKind.i64.wrap (pages * (256 : Int)))) = true : St }) := by kernel_rfl
theorem rlayout_ok (pages : Int) (stack : Int) (types : Int) (nc : Nat) (nr : Nat) (ns : Nat) (data : List UInt8) : evF Try.prog (baseC 3 selJ) noLoop 100 10 29 [imgV pages stack types nc nr ns data] { n := 67, h := [], lo := [], esc := 0, T := [(0, false)], k := 0, O := True : St } = some (Value.tuple { toList := [Value.agg { toList := [Value.int IntKind.u32 (0 : Int), Value.int IntKind.u32 (↑(r256 (IntKind.u32.wrap ((4 : Int) * IntKind.u32.wrap (↑nc : Int))).toNat) : Int), Value.int IntKind.u32 (IntKind.u32.wrap (IntKind.u32.wrap ((IntKind.u32.wrap (IntKind.u32.wrap ((↑(r256 (IntKind.u32.wrap ((4 : Int) * IntKind.u32.wrap (↑nc : Int))).toNat) : Int) + (256 : Int)) - (1 : Int))).tdiv (256 : Int)) * (256 : Int))), Value.int IntKind.u32 (↑(r256 (IntKind.u32.wrap (↑(lenT data) : Int)).toNat) : Int), Value.int IntKind.u32 (IntKind.u32.wrap (IntKind.u32.wrap (IntKind.u32.wrap ((IntKind.u32.wrap (IntKind.u32.wrap ((↑(r256 (IntKind.u32.wrap ((4 : Int) * IntKind.u32.wrap (↑nc : Int))).toNat) : Int) + (256 : Int)) - (1 : Int))).tdiv (256 : Int)) * (256 : Int)) + (↑(r256 (IntKind.u32.wrap (↑(lenT data) : Int)).toNat) : Int))), Value.int IntKind.u32 (IntKind.u32.wrap (IntKind.i64.wrap (stack * (↑ns : Int)))), Value.int IntKind.u32 (IntKind.u32.wrap (IntKind.u32.wrap (IntKind.u32.wrap (IntKind.u32.wrap ((IntKind.u32.wrap (IntKind.u32.wrap ((↑(r256 (IntKind.u32.wrap ((4 : Int) * IntKind.u32.wrap (↑nc : Int))).toNat) : Int) + (256 : Int)) - (1 : Int))).tdiv (256 : Int)) * (256 : Int)) + (↑(r256 (IntKind.u32.wrap (↑(lenT data) : Int)).toNat) : Int)) + IntKind.u32.wrap (IntKind.i64.wrap (stack * (↑ns : Int))))), Value.int IntKind.u32 (IntKind.u32.wrap (IntKind.u32.wrap (IntKind.i64.wrap (pages * (256 : Int))) - IntKind.u32.wrap (IntKind.u32.wrap (IntKind.u32.wrap (IntKind.u32.wrap ((IntKind.u32.wrap (IntKind.u32.wrap ((↑(r256 (IntKind.u32.wrap ((4 : Int) * IntKind.u32.wrap (↑nc : Int))).toNat) : Int) + (256 : Int)) - (1 : Int))).tdiv (256 : Int)) * (256 : Int)) + (↑(r256 (IntKind.u32.wrap (↑(lenT data) : Int)).toNat) : Int)) + IntKind.u32.wrap (IntKind.i64.wrap (stack * (↑ns : Int))))))] }, Value.bool true] }, { n := 70, h := [], lo := [], esc := 0, T := [], k := 1, O := ((True ∧ ((0 : Int) ≤ IntKind.u32.wrap ((4 : Int) * IntKind.u32.wrap (↑nc : Int)) ∧ IntKind.u32.wrap ((4 : Int) * IntKind.u32.wrap (↑nc : Int)) ≤ (100000 : Int)) ∧ (Value.int IntKind.u32 (IntKind.u32.wrap ((4 : Int) * IntKind.u32.wrap (↑nc : Int))) = Value.int IntKind.u32 (IntKind.u32.wrap ((4 : Int) * IntKind.u32.wrap (↑nc : Int))) ∧ True) ∧ True ∧ True) ∧ ((0 : Int) ≤ IntKind.u32.wrap (↑(lenT data) : Int) ∧ IntKind.u32.wrap (↑(lenT data) : Int) ≤ (100000 : Int)) ∧ (Value.int IntKind.u32 (IntKind.u32.wrap (↑(lenT data) : Int)) = Value.int IntKind.u32 (IntKind.u32.wrap (↑(lenT data) : Int)) ∧ True) ∧ True ∧ True) ∧ decide (IntKind.u32.wrap (IntKind.u32.wrap (IntKind.u32.wrap (IntKind.u32.wrap (IntKind.u32.wrap ((IntKind.u32.wrap (IntKind.u32.wrap ((↑(r256 (IntKind.u32.wrap ((4 : Int) * IntKind.u32.wrap (↑nc : Int))).toNat) : Int) + (256 : Int)) - (1 : Int))).tdiv (256 : Int)) * (256 : Int)) + (↑(r256 (IntKind.u32.wrap (↑(lenT data) : Int)).toNat) : Int)) + IntKind.u32.wrap (IntKind.i64.wrap (stack * (↑ns : Int)))) + (256 : Int)) > IntKind.u32.wrap (IntKind.i64.wrap (pages * (256 : Int)))) = false : St }) := by kernel_rfl
section
variable {P : Program} {call : CallK} {f : FuncId}
theorem conOk_flat (hcall : SoundCall P call) {args : List Value} {n : Nat} {T : List (Nat × Bool)} {v : Value} {s' : St} (hng : NG ≤ n) (ha : args.all (okV (fun l => Nat.blt l n) 3) = true) (h : call f args ⟨n, [], [], 0, T, 0, True⟩ = some (v, s')) (hO : s'.O) (hv : flat2 v = true) (hu : isU v = false) : ConOk P f 3 ⟨args, n, [], [], v, n, [], []⟩ := by
  refine conOk_run hcall (T := T) (v := v) (s' := s') (p := fun _ => false) (σ := id) ⟨hng, Nat.le_refl _, trivial, rfl, rfl, rfl, ha, okV_flat2 hv 1, fun x hx => by cases hx⟩ h hO ?_
  exact ⟨fun _ _ => rfl, trivial, rfl, trivial, ⟨okV_flat2 hv 1, (rnV_id 3 v).symm⟩, hu, trivial, rfl, bnd_flat2 _ hv, fun x hx => by cases hx⟩
end
def layFrom (stack : Int) (nc ns len : Nat) : Nat := r256 (4 * nc) + r256 len + stack.toNat * ns
def layBig (pages stack : Int) (nc ns len : Nat) : Bool := decide (layFrom stack nc ns len + 256 > pages.toNat * 256)
def pk (b : Bool) (x : Nat) : Int := bif b then 0 else (x : Int)
def layA (pages stack : Int) (nc ns len : Nat) : Value :=
  .agg ⟨[.int .u32 0, .int .u32 (pk (layBig pages stack nc ns len) (r256 (4 * nc))), .int .u32 (pk (layBig pages stack nc ns len) (r256 (4 * nc))), .int .u32 (pk (layBig pages stack nc ns len) (r256 len)), .int .u32 (pk (layBig pages stack nc ns len) (r256 (4 * nc) + r256 len)), .int .u32 (pk (layBig pages stack nc ns len) (stack.toNat * ns)), .int .u32 (pk (layBig pages stack nc ns len) (layFrom stack nc ns len)), .int .u32 (pk (layBig pages stack nc ns len) (pages.toNat * 256 - layFrom stack nc ns len))]⟩
def layR (pages stack : Int) (nc ns len : Nat) : Value := .tuple ⟨[layA pages stack nc ns len, .bool (!layBig pages stack nc ns len)]⟩
def layOk (pages stack : Int) (nc ns len : Nat) : Prop := 0 ≤ pages ∧ pages ≤ 1024 ∧ 0 ≤ stack ∧ stack ≤ 4096 ∧ stack % 256 = 0 ∧ nc ≤ 4096 ∧ ns ≤ 4 ∧ len ≤ 16384
def layC (pages stack types : Int) (nc nr ns : Nat) (data : List UInt8) : Con := ⟨[imgV pages stack types nc nr ns data], 67, [], [], layR pages stack nc ns data.length, 67, [], []⟩
theorem alg256 (x : Nat) (h : x % 256 = 0) (hx : x ≤ 10000000) : bits .andNot .u32 (IntKind.u32.wrap (IntKind.u32.wrap ((x : Int) + 256) - 1)) 255 = (x : Int) := by
  have e1 : IntKind.u32.wrap (IntKind.u32.wrap ((x : Int) + 256) - 1) = ((x + 255 : Nat) : Int) := by
    rw [IntKind.wrap_u32, IntKind.wrap_u32]; omega
  have e2 := struck (x + 255) 8 (by omega) (by omega)
  rw [show (((2 ^ 8 - 1 : Nat)) : Int) = 255 from rfl] at e2
  rw [e1, e2]
  omega
theorem ralg256' (x : Nat) (h : x % 256 = 0) (hx : x ≤ 10000000) : IntKind.u32.wrap (IntKind.u32.wrap ((IntKind.u32.wrap (IntKind.u32.wrap ((x : Int) + 256) - 1)).tdiv 256) * 256) = (x : Int) := by
  have e1 : IntKind.u32.wrap (IntKind.u32.wrap ((x : Int) + 256) - 1) = ((x + 255 : Nat) : Int) := by
    rw [IntKind.wrap_u32, IntKind.wrap_u32]; omega
  rw [e1, show ((256 : Int)) = ((256 : Nat) : Int) from rfl, ← Int.ofNat_tdiv, IntKind.wrap_u32, IntKind.wrap_u32]
  omega
theorem r256_mod (n : Nat) : r256 n % 256 = 0 := by unfold r256; omega
theorem r256_le (n : Nat) : r256 n ≤ n + 255 := by unfold r256; omega
theorem u32_nat (x : Nat) (h : x < 4294967296) : IntKind.u32.wrap (x : Int) = (x : Int) := by rw [IntKind.wrap_u32]; omega
theorem u32_add (x y : Nat) (h : x + y < 4294967296) : IntKind.u32.wrap ((x : Int) + (y : Int)) = ((x + y : Nat) : Int) := by rw [IntKind.wrap_u32]; omega
theorem layC_any {f : FuncId} {pages stack types : Int} {nc nr ns : Nat} {data : List UInt8} {T : List (Nat × Bool)} {s' : St} {v : Value} (h : evF Try.prog (baseC 3 selJ) noLoop 100 10 f [imgV pages stack types nc nr ns data] ⟨67, [], [], 0, T, 0, True⟩ = some (v, s')) (hv : v = layR pages stack nc ns data.length) (hO : s'.O) : ConOk Try.prog f 3 (layC pages stack types nc nr ns data) := by
  subst hv
  refine conOk_flat (run_ok i_names (baseC_ok selJ_ok) (noLoop_ok _) 10) (by decide) ?_ h hO rfl rfl
  kernel_rfl
theorem stack_ns {s ns : Nat} (h1 : s ≤ 4096) (h2 : ns ≤ 4) : s * ns ≤ 16384 := Nat.mul_le_mul h1 h2
theorem lay_prog (pages stack types : Int) (nc nr ns : Nat) (data : List UInt8) (h : layOk pages stack nc ns data.length) : ConOk Try.prog 26 3 (layC pages stack types nc nr ns data) := by
  obtain ⟨h1, h2, h3, h4, h5, h6, h7, h8⟩ := h
  obtain ⟨p, rfl⟩ := Int.eq_ofNat_of_zero_le h1
  obtain ⟨s, rfl⟩ := Int.eq_ofNat_of_zero_le h3
  have hs := stack_ns (s := s) (ns := ns) (by omega) h7
  have q1 := r256_le (4 * nc)
  have q2 := r256_le data.length
  have m1 := r256_mod (4 * nc)
  have m2 := r256_mod data.length
  have m3 : s * ns % 256 = 0 := by rw [Nat.mul_mod, show s % 256 = 0 by omega]; simp
  have e1 : IntKind.i64.wrap ((4 : Int) * (nc : Int)) = ((4 * nc : Nat) : Int) := by rw [wrap_i64 (by omega) (by omega)]; omega
  have e2 : IntKind.u32.wrap ((0 : Int) + ((r256 (4 * nc) : Nat) : Int)) = ((r256 (4 * nc) : Nat) : Int) := by rw [IntKind.wrap_u32]; omega
  have e3 : IntKind.i64.wrap ((s : Int) * (ns : Int)) = ((s * ns : Nat) : Int) := by rw [Int.ofNat_mul_ofNat, wrap_i64 (by omega) (by omega)]
  have e4 : IntKind.u32.wrap (IntKind.u32.wrap (p : Int) * (256 : Int)) = ((p * 256 : Nat) : Int) := by rw [IntKind.wrap_u32, IntKind.wrap_u32]; omega
  have hd := layout_big (p : Int) (s : Int) types nc nr ns data
  have hk := layout_ok (p : Int) (s : Int) types nc nr ns data
  simp only [e1, Int.toNat_natCast, lenT_eq, e2, alg256 _ m1 (by omega), u32_add (r256 (4 * nc)) (r256 data.length) (by omega), alg256 (r256 (4 * nc) + r256 data.length) (by omega) (by omega), e3, u32_nat (s * ns) (by omega), u32_add (r256 (4 * nc) + r256 data.length) (s * ns) (by omega), alg256 (r256 (4 * nc) + r256 data.length + s * ns) (by omega) (by omega), e4] at hd hk
  cases hb : layBig (p : Int) (s : Int) nc ns data.length
  · have hb' : r256 (4 * nc) + r256 data.length + s * ns + 256 ≤ p * 256 := by
      unfold layBig layFrom at hb; simp only [Int.toNat_natCast, decide_eq_false_iff_not] at hb; omega
    have e5 : IntKind.u32.wrap (((p * 256 : Nat) : Int) - ((r256 (4 * nc) + r256 data.length + s * ns : Nat) : Int)) = ((p * 256 - (r256 (4 * nc) + r256 data.length + s * ns) : Nat) : Int) := by rw [IntKind.wrap_u32]; omega
    rw [e5] at hk
    refine layC_any (T := [(0, false)]) hk ?_ ?_
    · unfold layR layA
      rw [hb]
      rfl
    · refine ⟨⟨⟨trivial, ⟨by omega, by omega⟩, ⟨trivial, trivial⟩, trivial, trivial⟩, ⟨by omega, by omega⟩, ⟨trivial, trivial⟩, trivial, trivial⟩, ?_⟩
      rw [IntKind.wrap_u32]
      simp only [decide_eq_false_iff_not]; omega
  · have hb' : ¬ (r256 (4 * nc) + r256 data.length + s * ns + 256 ≤ p * 256) := by
      unfold layBig layFrom at hb; simp only [Int.toNat_natCast, decide_eq_true_eq] at hb; omega
    refine layC_any (T := [(0, true)]) hd ?_ ?_
    · unfold layR layA
      rw [hb]
      rfl
    · refine ⟨⟨⟨trivial, ⟨by omega, by omega⟩, ⟨trivial, trivial⟩, trivial, trivial⟩, ⟨by omega, by omega⟩, ⟨trivial, trivial⟩, trivial, trivial⟩, ?_⟩
      rw [IntKind.wrap_u32]
      simp only [decide_eq_true_eq]; omega
theorem lay_ref (pages stack types : Int) (nc nr ns : Nat) (data : List UInt8) (h : layOk pages stack nc ns data.length) : ConOk Try.prog 29 3 (layC pages stack types nc nr ns data) := by
  obtain ⟨h1, h2, h3, h4, h5, h6, h7, h8⟩ := h
  obtain ⟨p, rfl⟩ := Int.eq_ofNat_of_zero_le h1
  obtain ⟨s, rfl⟩ := Int.eq_ofNat_of_zero_le h3
  have hs := stack_ns (s := s) (ns := ns) (by omega) h7
  have q1 := r256_le (4 * nc)
  have q2 := r256_le data.length
  have m1 := r256_mod (4 * nc)
  have m2 := r256_mod data.length
  have m3 : s * ns % 256 = 0 := by rw [Nat.mul_mod, show s % 256 = 0 by omega]; simp
  have e1 : IntKind.u32.wrap ((4 : Int) * IntKind.u32.wrap (nc : Int)) = ((4 * nc : Nat) : Int) := by rw [IntKind.wrap_u32, IntKind.wrap_u32]; omega
  have e2 := u32_nat data.length (by omega)
  have e3 : IntKind.i64.wrap ((s : Int) * (ns : Int)) = ((s * ns : Nat) : Int) := by rw [Int.ofNat_mul_ofNat, wrap_i64 (by omega) (by omega)]
  have e4 : IntKind.u32.wrap (IntKind.i64.wrap ((p : Int) * (256 : Int))) = ((p * 256 : Nat) : Int) := by rw [wrap_i64 (by omega) (by omega), IntKind.wrap_u32]; omega
  have hd := rlayout_big (p : Int) (s : Int) types nc nr ns data
  have hk := rlayout_ok (p : Int) (s : Int) types nc nr ns data
  simp only [e1, Int.toNat_natCast, lenT_eq, e2, ralg256' _ m1 (by omega), u32_add (r256 (4 * nc)) (r256 data.length) (by omega), e3, u32_nat (s * ns) (by omega), u32_add (r256 (4 * nc) + r256 data.length) (s * ns) (by omega), e4] at hd hk
  cases hb : layBig (p : Int) (s : Int) nc ns data.length
  · have hb' : r256 (4 * nc) + r256 data.length + s * ns + 256 ≤ p * 256 := by
      unfold layBig layFrom at hb; simp only [Int.toNat_natCast, decide_eq_false_iff_not] at hb; omega
    have e5 : IntKind.u32.wrap (((p * 256 : Nat) : Int) - ((r256 (4 * nc) + r256 data.length + s * ns : Nat) : Int)) = ((p * 256 - (r256 (4 * nc) + r256 data.length + s * ns) : Nat) : Int) := by rw [IntKind.wrap_u32]; omega
    rw [e5] at hk
    refine layC_any (T := [(0, false)]) hk ?_ ?_
    · unfold layR layA
      rw [hb]
      rfl
    · refine ⟨⟨⟨trivial, ⟨by omega, by omega⟩, ⟨trivial, trivial⟩, trivial, trivial⟩, ⟨by omega, by omega⟩, ⟨trivial, trivial⟩, trivial, trivial⟩, ?_⟩
      rw [IntKind.wrap_u32]
      simp only [decide_eq_false_iff_not]; omega
  · have hb' : ¬ (r256 (4 * nc) + r256 data.length + s * ns + 256 ≤ p * 256) := by
      unfold layBig layFrom at hb; simp only [Int.toNat_natCast, decide_eq_true_eq] at hb; omega
    refine layC_any (T := [(0, true)]) hd ?_ ?_
    · unfold layR layA
      rw [hb]
      rfl
    · refine ⟨⟨⟨trivial, ⟨by omega, by omega⟩, ⟨trivial, trivial⟩, trivial, trivial⟩, ⟨by omega, by omega⟩, ⟨trivial, trivial⟩, trivial, trivial⟩, ?_⟩
      rw [IntKind.wrap_u32]
      simp only [decide_eq_true_eq]; omega
def selLay : SelC := fun f args _ =>
  match args with
  | [.agg ⟨[.int _ pages, .int _ stack, .int _ types, .slice (some a) nc _, .string ⟨⟨data⟩⟩, .slice (some b) nr _, .slice (some c) ns _]⟩] =>
    bif Nat.beq f 26 || Nat.beq f 29 then some (layC pages stack types nc nr ns data, [a.block, b.block, c.block], layOk pages stack nc ns data.length) else none
  | _ => none
theorem selLay_ok : SelOk Try.prog 3 selLay := by
  intro f args s c ρ q h hq
  unfold selLay at h
  split at h
  · obtain ⟨h2, h⟩ := bif_some h
    cases h
    simp only [Bool.or_eq_true] at h2
    rcases h2 with h2 | h2
    · have h2 := Nat.eq_of_beq_eq_true h2
      subst h2
      exact lay_prog _ _ _ _ _ _ _ hq
    · have h2 := Nat.eq_of_beq_eq_true h2
      subst h2
      exact lay_ref _ _ _ _ _ _ _ hq
  · cases h
def selK : SelC := selOr selLay selJ
theorem selK_ok : SelOk Try.prog 3 selK := selOr_ok selLay_ok selJ_ok
end Go.Proofs.Ytdljpnebpoaeiaa
namespace Go.Proofs.Ytdljpnebpoaeiaa
set_option linter.unusedVariables false
set_option linter.unusedSimpArgs false
open Go.RowKit
open Sy
def layW (a b c d e f g h : Int) : Value := .agg ⟨[.int .u32 a, .int .u32 b, .int .u32 c, .int .u32 d, .int .u32 e, .int .u32 f, .int .u32 g, .int .u32 h]⟩
def relW (at_ : Int) (code : Bool) (off size perms typ : Int) : Value := .agg ⟨[.int .u32 at_, .bool code, .int .u32 off, .int .u32 size, .int .u16 perms, .int .u16 typ]⟩
theorem right_dn (pages : Int) (stack : Int) (types : Int) (nc : Nat) (nr : Nat) (ns : Nat) (data : List UInt8) (a : Int) (b : Int) (c : Int) (d : Int) (e : Int) (f : Int) (g : Int) (h : Int) (x : Int) (off : Int) (size : Int) (perms : Int) (typ : Int) (behind : Int) : evF Try.prog (baseC 3 selK) noLoop 100 10 27 [imgV pages stack types nc nr ns data, layW a b c d e f g h, relW x false off size perms typ, Value.int IntKind.u32 behind] { n := 67, h := [], lo := [], esc := 0, T := [(1, true)], k := 0, O := True : St } = some (Value.bool false, { n := 72, h := [], lo := [], esc := 0, T := [], k := 2, O := (True ∧ (true = true ∧ 6 < 9000000000000000000) ∧ (Value.slice (some { block := 71, off := 0 }) 6 6 = Value.slice (some { block := 71, off := 0 }) 6 6 ∧ True) ∧ ((true = true ∧ true = true ∧ true = true ∧ true = true ∧ true = true ∧ True ∧ [Value.bool (x.tmod (16 : Int) != (0 : Int)), Value.bool (decide (x < behind)), Value.bool (decide (IntKind.u64.wrap (IntKind.u64.wrap x + (16 : Int)) > IntKind.u64.wrap (↑(lenT data) : Int))), Value.bool (decide (IntKind.u64.wrap (IntKind.u64.wrap off + IntKind.u64.wrap size) > IntKind.u64.wrap (↑(lenT data) : Int))), Value.bool (bits BinOp.andNot IntKind.u16 perms (155 : Int) != (0 : Int)), Value.bool (decide (IntKind.i64.wrap typ > types))] = [Value.bool (x.tmod (16 : Int) != (0 : Int)), Value.bool (decide (x < behind)), Value.bool (decide (IntKind.u64.wrap (IntKind.u64.wrap x + (16 : Int)) > IntKind.u64.wrap (↑(lenT data) : Int))), Value.bool (decide (IntKind.u64.wrap (IntKind.u64.wrap off + IntKind.u64.wrap size) > IntKind.u64.wrap (↑(lenT data) : Int))), Value.bool (bits BinOp.andNot IntKind.u16 perms (155 : Int) != (0 : Int)), Value.bool (decide (IntKind.i64.wrap typ > types))]) ∧ True) ∧ True) ∧ (!!(x.tmod (16 : Int) != (0 : Int) || (decide (x < behind) || (decide (IntKind.u64.wrap (IntKind.u64.wrap x + (16 : Int)) > IntKind.u64.wrap (↑(lenT data) : Int)) || (decide (IntKind.u64.wrap (IntKind.u64.wrap off + IntKind.u64.wrap size) > IntKind.u64.wrap (↑(lenT data) : Int)) || (bits BinOp.andNot IntKind.u16 perms (155 : Int) != (0 : Int) || (decide (IntKind.i64.wrap typ > types) || false))))))) = true : St }) := by kernel_rfl
theorem right_dy (pages : Int) (stack : Int) (types : Int) (nc : Nat) (nr : Nat) (ns : Nat) (data : List UInt8) (a : Int) (b : Int) (c : Int) (d : Int) (e : Int) (f : Int) (g : Int) (h : Int) (x : Int) (off : Int) (size : Int) (perms : Int) (typ : Int) (behind : Int) : evF Try.prog (baseC 3 selK) noLoop 100 10 27 [imgV pages stack types nc nr ns data, layW a b c d e f g h, relW x false off size perms typ, Value.int IntKind.u32 behind] { n := 67, h := [], lo := [], esc := 0, T := [(1, false)], k := 0, O := True : St } = some (Value.bool (encX (IntKind.u32.wrap (c + off)).toNat (IntKind.u64.wrap (IntKind.u64.wrap (IntKind.u32.wrap (c + off)) + IntKind.u64.wrap size)).toNat), { n := 72, h := [], lo := [], esc := 0, T := [], k := 2, O := ((True ∧ (true = true ∧ 6 < 9000000000000000000) ∧ (Value.slice (some { block := 71, off := 0 }) 6 6 = Value.slice (some { block := 71, off := 0 }) 6 6 ∧ True) ∧ ((true = true ∧ true = true ∧ true = true ∧ true = true ∧ true = true ∧ True ∧ [Value.bool (x.tmod (16 : Int) != (0 : Int)), Value.bool (decide (x < behind)), Value.bool (decide (IntKind.u64.wrap (IntKind.u64.wrap x + (16 : Int)) > IntKind.u64.wrap (↑(lenT data) : Int))), Value.bool (decide (IntKind.u64.wrap (IntKind.u64.wrap off + IntKind.u64.wrap size) > IntKind.u64.wrap (↑(lenT data) : Int))), Value.bool (bits BinOp.andNot IntKind.u16 perms (155 : Int) != (0 : Int)), Value.bool (decide (IntKind.i64.wrap typ > types))] = [Value.bool (x.tmod (16 : Int) != (0 : Int)), Value.bool (decide (x < behind)), Value.bool (decide (IntKind.u64.wrap (IntKind.u64.wrap x + (16 : Int)) > IntKind.u64.wrap (↑(lenT data) : Int))), Value.bool (decide (IntKind.u64.wrap (IntKind.u64.wrap off + IntKind.u64.wrap size) > IntKind.u64.wrap (↑(lenT data) : Int))), Value.bool (bits BinOp.andNot IntKind.u16 perms (155 : Int) != (0 : Int)), Value.bool (decide (IntKind.i64.wrap typ > types))]) ∧ True) ∧ True) ∧ (!!(x.tmod (16 : Int) != (0 : Int) || (decide (x < behind) || (decide (IntKind.u64.wrap (IntKind.u64.wrap x + (16 : Int)) > IntKind.u64.wrap (↑(lenT data) : Int)) || (decide (IntKind.u64.wrap (IntKind.u64.wrap off + IntKind.u64.wrap size) > IntKind.u64.wrap (↑(lenT data) : Int)) || (bits BinOp.andNot IntKind.u16 perms (155 : Int) != (0 : Int) || (decide (IntKind.i64.wrap typ > types) || false))))))) = false) ∧ (((0 : Int) ≤ IntKind.u32.wrap (c + off) ∧ IntKind.u32.wrap (c + off) < (4294967296 : Int)) ∧ (0 : Int) ≤ IntKind.u64.wrap (IntKind.u64.wrap (IntKind.u32.wrap (c + off)) + IntKind.u64.wrap size) ∧ IntKind.u64.wrap (IntKind.u64.wrap (IntKind.u32.wrap (c + off)) + IntKind.u64.wrap size) < (18446744073709551616 : Int)) ∧ (Value.int IntKind.u32 (IntKind.u32.wrap (c + off)) = Value.int IntKind.u32 (IntKind.u32.wrap (c + off)) ∧ Value.int IntKind.u64 (IntKind.u64.wrap (IntKind.u64.wrap (IntKind.u32.wrap (c + off)) + IntKind.u64.wrap size)) = Value.int IntKind.u64 (IntKind.u64.wrap (IntKind.u64.wrap (IntKind.u32.wrap (c + off)) + IntKind.u64.wrap size)) ∧ True) ∧ True ∧ True : St }) := by kernel_rfl
theorem right_cn (pages : Int) (stack : Int) (types : Int) (nc : Nat) (nr : Nat) (ns : Nat) (data : List UInt8) (a : Int) (b : Int) (c : Int) (d : Int) (e : Int) (f : Int) (g : Int) (h : Int) (x : Int) (off : Int) (size : Int) (perms : Int) (typ : Int) (behind : Int) : evF Try.prog (baseC 3 selK) noLoop 100 10 27 [imgV pages stack types nc nr ns data, layW a b c d e f g h, relW x true off size perms typ, Value.int IntKind.u32 behind] { n := 67, h := [], lo := [], esc := 0, T := [(1, true)], k := 0, O := True : St } = some (Value.bool false, { n := 72, h := [], lo := [], esc := 0, T := [], k := 2, O := (True ∧ (true = true ∧ 6 < 9000000000000000000) ∧ (Value.slice (some { block := 71, off := 0 }) 6 6 = Value.slice (some { block := 71, off := 0 }) 6 6 ∧ True) ∧ ((true = true ∧ true = true ∧ true = true ∧ true = true ∧ true = true ∧ True ∧ [Value.bool (x.tmod (16 : Int) != (0 : Int)), Value.bool (decide (x < behind)), Value.bool (decide (IntKind.u64.wrap (IntKind.u64.wrap x + (16 : Int)) > IntKind.u64.wrap (↑(lenT data) : Int))), Value.bool (decide (IntKind.u64.wrap (IntKind.u64.wrap off + IntKind.u64.wrap size) > IntKind.u64.wrap ((4 : Int) * IntKind.u64.wrap (↑nc : Int)))), Value.bool (bits BinOp.andNot IntKind.u16 perms (133 : Int) != (0 : Int)), Value.bool (decide (IntKind.i64.wrap typ > types))] = [Value.bool (x.tmod (16 : Int) != (0 : Int)), Value.bool (decide (x < behind)), Value.bool (decide (IntKind.u64.wrap (IntKind.u64.wrap x + (16 : Int)) > IntKind.u64.wrap (↑(lenT data) : Int))), Value.bool (decide (IntKind.u64.wrap (IntKind.u64.wrap off + IntKind.u64.wrap size) > IntKind.u64.wrap ((4 : Int) * IntKind.u64.wrap (↑nc : Int)))), Value.bool (bits BinOp.andNot IntKind.u16 perms (133 : Int) != (0 : Int)), Value.bool (decide (IntKind.i64.wrap typ > types))]) ∧ True) ∧ True) ∧ (!!(x.tmod (16 : Int) != (0 : Int) || (decide (x < behind) || (decide (IntKind.u64.wrap (IntKind.u64.wrap x + (16 : Int)) > IntKind.u64.wrap (↑(lenT data) : Int)) || (decide (IntKind.u64.wrap (IntKind.u64.wrap off + IntKind.u64.wrap size) > IntKind.u64.wrap ((4 : Int) * IntKind.u64.wrap (↑nc : Int))) || (bits BinOp.andNot IntKind.u16 perms (133 : Int) != (0 : Int) || (decide (IntKind.i64.wrap typ > types) || false))))))) = true : St }) := by kernel_rfl
theorem right_cy (pages : Int) (stack : Int) (types : Int) (nc : Nat) (nr : Nat) (ns : Nat) (data : List UInt8) (a : Int) (b : Int) (c : Int) (d : Int) (e : Int) (f : Int) (g : Int) (h : Int) (x : Int) (off : Int) (size : Int) (perms : Int) (typ : Int) (behind : Int) : evF Try.prog (baseC 3 selK) noLoop 100 10 27 [imgV pages stack types nc nr ns data, layW a b c d e f g h, relW x true off size perms typ, Value.int IntKind.u32 behind] { n := 67, h := [], lo := [], esc := 0, T := [(1, false)], k := 0, O := True : St } = some (Value.bool (encX (IntKind.u32.wrap (a + off)).toNat (IntKind.u64.wrap (IntKind.u64.wrap (IntKind.u32.wrap (a + off)) + IntKind.u64.wrap size)).toNat), { n := 72, h := [], lo := [], esc := 0, T := [], k := 2, O := ((True ∧ (true = true ∧ 6 < 9000000000000000000) ∧ (Value.slice (some { block := 71, off := 0 }) 6 6 = Value.slice (some { block := 71, off := 0 }) 6 6 ∧ True) ∧ ((true = true ∧ true = true ∧ true = true ∧ true = true ∧ true = true ∧ True ∧ [Value.bool (x.tmod (16 : Int) != (0 : Int)), Value.bool (decide (x < behind)), Value.bool (decide (IntKind.u64.wrap (IntKind.u64.wrap x + (16 : Int)) > IntKind.u64.wrap (↑(lenT data) : Int))), Value.bool (decide (IntKind.u64.wrap (IntKind.u64.wrap off + IntKind.u64.wrap size) > IntKind.u64.wrap ((4 : Int) * IntKind.u64.wrap (↑nc : Int)))), Value.bool (bits BinOp.andNot IntKind.u16 perms (133 : Int) != (0 : Int)), Value.bool (decide (IntKind.i64.wrap typ > types))] = [Value.bool (x.tmod (16 : Int) != (0 : Int)), Value.bool (decide (x < behind)), Value.bool (decide (IntKind.u64.wrap (IntKind.u64.wrap x + (16 : Int)) > IntKind.u64.wrap (↑(lenT data) : Int))), Value.bool (decide (IntKind.u64.wrap (IntKind.u64.wrap off + IntKind.u64.wrap size) > IntKind.u64.wrap ((4 : Int) * IntKind.u64.wrap (↑nc : Int)))), Value.bool (bits BinOp.andNot IntKind.u16 perms (133 : Int) != (0 : Int)), Value.bool (decide (IntKind.i64.wrap typ > types))]) ∧ True) ∧ True) ∧ (!!(x.tmod (16 : Int) != (0 : Int) || (decide (x < behind) || (decide (IntKind.u64.wrap (IntKind.u64.wrap x + (16 : Int)) > IntKind.u64.wrap (↑(lenT data) : Int)) || (decide (IntKind.u64.wrap (IntKind.u64.wrap off + IntKind.u64.wrap size) > IntKind.u64.wrap ((4 : Int) * IntKind.u64.wrap (↑nc : Int))) || (bits BinOp.andNot IntKind.u16 perms (133 : Int) != (0 : Int) || (decide (IntKind.i64.wrap typ > types) || false))))))) = false) ∧ (((0 : Int) ≤ IntKind.u32.wrap (a + off) ∧ IntKind.u32.wrap (a + off) < (4294967296 : Int)) ∧ (0 : Int) ≤ IntKind.u64.wrap (IntKind.u64.wrap (IntKind.u32.wrap (a + off)) + IntKind.u64.wrap size) ∧ IntKind.u64.wrap (IntKind.u64.wrap (IntKind.u32.wrap (a + off)) + IntKind.u64.wrap size) < (18446744073709551616 : Int)) ∧ (Value.int IntKind.u32 (IntKind.u32.wrap (a + off)) = Value.int IntKind.u32 (IntKind.u32.wrap (a + off)) ∧ Value.int IntKind.u64 (IntKind.u64.wrap (IntKind.u64.wrap (IntKind.u32.wrap (a + off)) + IntKind.u64.wrap size)) = Value.int IntKind.u64 (IntKind.u64.wrap (IntKind.u64.wrap (IntKind.u32.wrap (a + off)) + IntKind.u64.wrap size)) ∧ True) ∧ True ∧ True : St }) := by kernel_rfl
def whole (nc len : Nat) (code : Bool) : Nat := bif code then 4 * nc else len
def allowed (code : Bool) : Int := bif code then 133 else 155
def relBad (types : Int) (nc len : Nat) (r : Rl) (behind : Nat) : Bool :=
  decide (r.at_ % 16 ≠ 0) || (decide (r.at_ < behind) || (decide (r.at_ + 16 > len) || (decide (r.off + r.size > whole nc len r.code) || (bits .andNot .u16 (r.perms : Int) (allowed r.code) != 0 || decide ((r.typ : Int) > types)))))
def relRight (types : Int) (nc len a c : Nat) (r : Rl) (behind : Nat) : Bool := !relBad types nc len r behind && encX ((bif r.code then a else c) + r.off) ((bif r.code then a else c) + r.off + r.size)
structure RlOk (r : Rl) : Prop where
  at_ : r.at_ < 4294967296
  off : r.off < 4294967296
  size : r.size < 4294967296
  perms : r.perms < 65536
  typ : r.typ < 65536
def relV (r : Rl) : Value := relW r.at_ r.code r.off r.size r.perms r.typ
def rightC (pages stack types : Int) (nc nr ns : Nat) (data : List UInt8) (a : Nat) (b : Int) (c : Nat) (d e f g h : Int) (r : Rl) (behind : Nat) : Con :=
  ⟨[imgV pages stack types nc nr ns data, layW a b c d e f g h, relV r, .int .u32 (behind : Int)], 67, [], [], .bool (relRight types nc data.length a c r behind), 67, [], []⟩
theorem right_or (types : Int) (nc len : Nat) (code : Bool) (at_ off size perms typ w : Nat) (pm : Int) (behind : Nat) (hr : RlOk ⟨at_, code, off, size, perms, typ⟩) (hn : nc ≤ 4096) (hl : len ≤ 16384) (hw : w = whole nc len code) (hp : pm = allowed code) :
    ((at_ : Int).tmod 16 != 0 || (decide ((at_ : Int) < (behind : Int)) || (decide (IntKind.u64.wrap (IntKind.u64.wrap (at_ : Int) + 16) > IntKind.u64.wrap (len : Int)) || (decide (IntKind.u64.wrap (IntKind.u64.wrap (off : Int) + IntKind.u64.wrap (size : Int)) > IntKind.u64.wrap (w : Int)) || (bits BinOp.andNot IntKind.u16 (perms : Int) pm != 0 || (decide (IntKind.i64.wrap (typ : Int) > types) || false)))))) = relBad types nc len ⟨at_, code, off, size, perms, typ⟩ behind := by
  subst hw hp
  obtain ⟨h1, h2, h3, h4, h5⟩ := hr
  simp only [] at h1 h2 h3 h4 h5
  have hw : whole nc len code ≤ 16384 := by unfold whole; cases code <;> simp <;> omega
  unfold relBad
  rw [Bool.or_false]
  congr 1
  · rw [show (16 : Int) = ((16 : Nat) : Int) from rfl, ← Int.ofNat_tmod]
    rw [Bool.eq_iff_iff]; simp only [bne_iff_ne, ne_eq, decide_eq_true_eq]; omega
  congr 1
  · rw [Bool.eq_iff_iff]; simp only [decide_eq_true_eq]; omega
  congr 1
  · rw [Bool.eq_iff_iff, IntKind.wrap_u64, IntKind.wrap_u64, IntKind.wrap_u64]; simp only [decide_eq_true_eq]; omega
  congr 1
  · rw [Bool.eq_iff_iff, IntKind.wrap_u64, IntKind.wrap_u64, IntKind.wrap_u64, IntKind.wrap_u64]; simp only [decide_eq_true_eq]; omega
  congr 1
  · rw [wrap_i64 (by omega) (by omega)]
theorem exact_in (a : Nat) (r : Rl) (ha : a ≤ 100000) (ho : r.off + r.size ≤ 16384) : encX (IntKind.u32.wrap ((a : Int) + (r.off : Int))).toNat (IntKind.u64.wrap (IntKind.u64.wrap (IntKind.u32.wrap ((a : Int) + (r.off : Int))) + IntKind.u64.wrap (r.size : Int))).toNat = encX (a + r.off) (a + r.off + r.size) := by
  have e1 : IntKind.u32.wrap ((a : Int) + (r.off : Int)) = ((a + r.off : Nat) : Int) := by rw [IntKind.wrap_u32]; omega
  have e2 : IntKind.u64.wrap (IntKind.u64.wrap ((a + r.off : Nat) : Int) + IntKind.u64.wrap (r.size : Int)) = ((a + r.off + r.size : Nat) : Int) := by rw [IntKind.wrap_u64, IntKind.wrap_u64, IntKind.wrap_u64]; omega
  rw [e1, e2]; rfl
def rightOk (nc len : Nat) (a c : Nat) (r : Rl) : Prop := RlOk r ∧ nc ≤ 4096 ∧ len ≤ 16384 ∧ a ≤ 100000 ∧ c ≤ 100000
theorem flat_any {f : FuncId} {args : List Value} {T : List (Nat × Bool)} {s' : St} {v v' : Value} (h : evF Try.prog (baseC 3 selK) noLoop 100 10 f args ⟨67, [], [], 0, T, 0, True⟩ = some (v, s')) (ha : args.all (okV (fun l => Nat.blt l 67) 3) = true) (hv : v = v') (hO : s'.O) (hf : flat2 v' = true) (hu : isU v' = false) : ConOk Try.prog f 3 ⟨args, 67, [], [], v', 67, [], []⟩ := by
  subst hv
  exact conOk_flat (run_ok i_names (baseC_ok selK_ok) (noLoop_ok _) 10) (by decide) ha h hO hf hu
theorem right_prog (pages stack types : Int) (nc nr ns : Nat) (data : List UInt8) (a : Nat) (b : Int) (c : Nat) (d e f g h : Int) (r : Rl) (behind : Nat) (hq : rightOk nc data.length a c r) : ConOk Try.prog 27 3 (rightC pages stack types nc nr ns data a b c d e f g h r behind) := by
  obtain ⟨hr, hn, hl, ha, hc⟩ := hq
  have hb4 : IntKind.u64.wrap ((4 : Int) * IntKind.u64.wrap (nc : Int)) = IntKind.u64.wrap ((4 * nc : Nat) : Int) := by
    rw [IntKind.wrap_u64, IntKind.wrap_u64, IntKind.wrap_u64]; omega
  obtain ⟨at_, code, off, size, perms, typ⟩ := r
  have hall : ∀ x : Bool, (rightC pages stack types nc nr ns data a b c d e f g h ⟨at_, x, off, size, perms, typ⟩ behind).args.all (okV (fun l => Nat.blt l 67) 3) = true := fun x => by kernel_rfl
  have hw : ∀ x, relBad types nc data.length ⟨at_, x, off, size, perms, typ⟩ behind = false → off + size ≤ 16384 := fun x hx => by
    unfold relBad at hx
    simp only [Bool.or_eq_false_iff, decide_eq_false_iff_not] at hx
    have h1 := hx.2.2.2.1
    have h2 : whole nc data.length x ≤ 16384 := by unfold whole; cases x <;> simp <;> omega
    omega
  have hO6 : (6 : Nat) < 9000000000000000000 := by omega
  cases code
  · have hd := right_dn pages stack types nc nr ns data a b c d e f g h at_ off size perms typ behind
    have hk := right_dy pages stack types nc nr ns data a b c d e f g h at_ off size perms typ behind
    have ho := right_or types nc data.length false at_ off size perms typ data.length 155 behind hr hn hl rfl rfl
    rw [lenT_eq, ho] at hd hk
    cases hb : relBad types nc data.length ⟨at_, false, off, size, perms, typ⟩ behind <;> rw [hb] at hd hk
    · refine flat_any hk (hall false) ?_ ?_ rfl rfl
      · have := exact_in c ⟨at_, false, off, size, perms, typ⟩ hc (hw _ hb)
        simp only [] at this
        rw [this]; simp only [relRight, hb, Bool.not_false, Bool.true_and, cond_false]
      · refine ⟨?_, ?_⟩
        · simp [hO6]
        · simp only [IntKind.wrap_u64, IntKind.wrap_u32]
          refine ⟨⟨by omega, by omega⟩, ?_, trivial, trivial⟩
          simp
    · refine flat_any hd (hall false) ?_ ?_ rfl rfl
      · simp only [relRight, hb, Bool.not_true, Bool.false_and]
      · simp [hO6]
  · have hd := right_cn pages stack types nc nr ns data a b c d e f g h at_ off size perms typ behind
    have hk := right_cy pages stack types nc nr ns data a b c d e f g h at_ off size perms typ behind
    have ho := right_or types nc data.length true at_ off size perms typ (4 * nc) 133 behind hr hn hl rfl rfl
    rw [lenT_eq, hb4, ho] at hd hk
    cases hb : relBad types nc data.length ⟨at_, true, off, size, perms, typ⟩ behind <;> rw [hb] at hd hk
    · refine flat_any hk (hall true) ?_ ?_ rfl rfl
      · have := exact_in a ⟨at_, true, off, size, perms, typ⟩ ha (hw _ hb)
        simp only [] at this
        rw [this]; simp only [relRight, hb, Bool.not_false, Bool.true_and, cond_true]
      · refine ⟨?_, ?_⟩
        · simp [hO6]
        · simp only [IntKind.wrap_u64, IntKind.wrap_u32]
          refine ⟨⟨by omega, by omega⟩, ?_, trivial, trivial⟩
          simp
    · refine flat_any hd (hall true) ?_ ?_ rfl rfl
      · simp only [relRight, hb, Bool.not_true, Bool.false_and]
      · simp [hO6]
end Go.Proofs.Ytdljpnebpoaeiaa
namespace Go.Proofs.Ytdljpnebpoaeiaa
set_option linter.unusedVariables false
set_option linter.unusedSimpArgs false
open Go.RowKit
open Sy
theorem rl_a0 (pages : Int) (stack : Int) (types : Int) (nc : Nat) (nr : Nat) (ns : Nat) (data : List UInt8) (a : Int) (b : Int) (c : Int) (d : Int) (e : Int) (f : Int) (g : Int) (h : Int) (rs : List Rl) : evF Try.prog (baseC 3 selK) noLoop 100 10 30 [imgV pages stack types nc nr ns data, layW a b c d e f g h, Value.int IntKind.i64 (0 : Int)] { n := 67, h := [(65, { rw := false, op := some (0, 0), cells := rels rs, it := none : Sy.Blk })], lo := [], esc := 0, T := [(0, true), (1, true), (2, true), (3, true), (4, true), (5, true), (6, true), (7, true), (8, true), (9, true), (10, true), (11, true), (12, true), (13, true), (14, true), (15, true)], k := 0, O := True : St } = some (Value.bool false, { n := 70, h := [(65, { rw := false, op := some (0, 0), cells := rels rs, it := none : Sy.Blk })], lo := [], esc := 0, T := [], k := 16, O := ((((((((((((((((bif hasN 6 (rels rs) && isLikeL [Value.int IntKind.u32 (0 : Int), Value.bool false, Value.int IntKind.u32 (0 : Int), Value.int IntKind.u32 (0 : Int), Value.int IntKind.u16 (0 : Int), Value.int IntKind.u16 (0 : Int)] (rels rs) 0 then bif decide ((0 : Int) < (↑nr : Int)) then True else False else False) ∧ ((intOf' (getD' undef (rels rs) 0)).tmod (16 : Int) != (0 : Int)) = true) ∧ ((intOf' (getD' undef (rels rs) 0)).tmod (16 : Int) != (0 : Int)) = true) ∧ ((intOf' (getD' undef (rels rs) 0)).tmod (16 : Int) != (0 : Int)) = true) ∧ ((intOf' (getD' undef (rels rs) 0)).tmod (16 : Int) != (0 : Int)) = true) ∧ ((intOf' (getD' undef (rels rs) 0)).tmod (16 : Int) != (0 : Int)) = true) ∧ true = true) ∧ true = true) ∧ true = true) ∧ true = true) ∧ true = true) ∧ true = true) ∧ true = true) ∧ true = true) ∧ true = true) ∧ true = true) ∧ true = true : St }) := by kernel_rfl
theorem rl_a1 (pages : Int) (stack : Int) (types : Int) (nc : Nat) (nr : Nat) (ns : Nat) (data : List UInt8) (a : Int) (b : Int) (c : Int) (d : Int) (e : Int) (f : Int) (g : Int) (h : Int) (rs : List Rl) (x : Int) : evF Try.prog (baseC 3 selK) noLoop 100 10 30 [imgV pages stack types nc nr ns data, layW a b c d e f g h, Value.int IntKind.i64 x] { n := 67, h := [(65, { rw := false, op := some (0, 0), cells := rels rs, it := none : Sy.Blk })], lo := [], esc := 0, T := [(0, true), (1, true), (2, true), (3, true), (4, true), (5, true), (6, true), (7, true), (8, true), (9, true), (10, true), (11, true), (12, true), (13, true), (14, true), (15, true)], k := 0, O := True : St } = some (Value.bool false, { n := 70, h := [(65, { rw := false, op := some (0, 0), cells := rels rs, it := none : Sy.Blk })], lo := [], esc := 0, T := [], k := 16, O := ((((((((((((((((bif hasN (0 + x.toNat * 6 + 6) (rels rs) && isLikeL [Value.int IntKind.u32 (0 : Int), Value.bool false, Value.int IntKind.u32 (0 : Int), Value.int IntKind.u32 (0 : Int), Value.int IntKind.u16 (0 : Int), Value.int IntKind.u16 (0 : Int)] (rels rs) (0 + x.toNat * 6) then bif decide ((0 : Int) ≤ x) && decide (x < (↑nr : Int)) then True else False else False) ∧ ((intOf' (getD' undef (rels rs) (0 + x.toNat * 6))).tmod (16 : Int) != (0 : Int)) = true) ∧ ((intOf' (getD' undef (rels rs) (0 + x.toNat * 6))).tmod (16 : Int) != (0 : Int)) = true) ∧ ((intOf' (getD' undef (rels rs) (0 + x.toNat * 6))).tmod (16 : Int) != (0 : Int)) = true) ∧ ((intOf' (getD' undef (rels rs) (0 + x.toNat * 6))).tmod (16 : Int) != (0 : Int)) = true) ∧ ((intOf' (getD' undef (rels rs) (0 + x.toNat * 6))).tmod (16 : Int) != (0 : Int)) = true) ∧ true = true) ∧ true = true) ∧ true = true) ∧ true = true) ∧ true = true) ∧ true = true) ∧ true = true) ∧ true = true) ∧ true = true) ∧ true = true) ∧ true = true : St }) := by kernel_rfl
theorem rl_b1 (pages : Int) (stack : Int) (types : Int) (nc : Nat) (nr : Nat) (ns : Nat) (data : List UInt8) (a : Int) (b : Int) (c : Int) (d : Int) (e : Int) (f : Int) (g : Int) (h : Int) (rs : List Rl) (x : Int) : evF Try.prog (baseC 3 selK) noLoop 100 10 30 [imgV pages stack types nc nr ns data, layW a b c d e f g h, Value.int IntKind.i64 x] { n := 67, h := [(65, { rw := false, op := some (0, 0), cells := rels rs, it := none : Sy.Blk })], lo := [], esc := 0, T := [(0, false), (1, false), (2, false), (3, true), (4, true), (5, true), (6, true), (7, true), (8, true), (9, true), (10, true), (11, true), (12, true), (13, false), (14, true), (15, false), (16, true), (17, true), (18, true), (19, true), (20, true), (21, true), (22, true), (23, true), (24, true), (25, true), (26, true)], k := 0, O := True : St } = some (Value.bool false, { n := 70, h := [(65, { rw := false, op := some (0, 0), cells := rels rs, it := none : Sy.Blk })], lo := [], esc := 0, T := [], k := 27, O := (((((((((((((((((bif hasN (0 + (IntKind.i64.wrap (x - (1 : Int))).toNat * 6 + 0 + 1) (rels rs) && isLikeL [Value.int IntKind.u32 (0 : Int)] (rels rs) (0 + (IntKind.i64.wrap (x - (1 : Int))).toNat * 6 + 0) then ((bif decide ((0 : Int) ≤ IntKind.i64.wrap (x - (1 : Int))) && decide (IntKind.i64.wrap (x - (1 : Int)) < (↑nr : Int)) then ((((((((bif hasN (0 + x.toNat * 6 + 6) (rels rs) && isLikeL [Value.int IntKind.u32 (0 : Int), Value.bool false, Value.int IntKind.u32 (0 : Int), Value.int IntKind.u32 (0 : Int), Value.int IntKind.u16 (0 : Int), Value.int IntKind.u16 (0 : Int)] (rels rs) (0 + x.toNat * 6) then bif decide ((0 : Int) ≤ x) && decide (x < (↑nr : Int)) then True else False else False) ∧ ((intOf' (getD' undef (rels rs) (0 + x.toNat * 6))).tmod (16 : Int) != (0 : Int)) = false) ∧ ((intOf' (getD' undef (rels rs) (0 + x.toNat * 6))).tmod (16 : Int) != (0 : Int)) = false) ∧ ((intOf' (getD' undef (rels rs) (0 + x.toNat * 6))).tmod (16 : Int) != (0 : Int)) = false) ∧ decide (x > (0 : Int)) = true) ∧ decide (x > (0 : Int)) = true) ∧ decide (x > (0 : Int)) = true) ∧ decide (x > (0 : Int)) = true) ∧ decide (x > (0 : Int)) = true else False) ∧ decide (x > (0 : Int)) = true) ∧ decide (x > (0 : Int)) = true else False) ∧ decide (x > (0 : Int)) = true) ∧ decide (x > (0 : Int)) = true) ∧ decide (x > (0 : Int)) = true) ∧ ((intOf' (getD' undef (rels rs) (0 + x.toNat * 6))).tmod (16 : Int) != (0 : Int)) = false) ∧ decide (x > (0 : Int)) = true) ∧ ((intOf' (getD' undef (rels rs) (0 + x.toNat * 6))).tmod (16 : Int) != (0 : Int)) = false) ∧ decide (intOf' (getD' undef (rels rs) (0 + (IntKind.i64.wrap (x - (1 : Int))).toNat * 6 + 0)) ≥ intOf' (getD' undef (rels rs) (0 + x.toNat * 6))) = true) ∧ decide (intOf' (getD' undef (rels rs) (0 + (IntKind.i64.wrap (x - (1 : Int))).toNat * 6 + 0)) ≥ intOf' (getD' undef (rels rs) (0 + x.toNat * 6))) = true) ∧ decide (intOf' (getD' undef (rels rs) (0 + (IntKind.i64.wrap (x - (1 : Int))).toNat * 6 + 0)) ≥ intOf' (getD' undef (rels rs) (0 + x.toNat * 6))) = true) ∧ decide (intOf' (getD' undef (rels rs) (0 + (IntKind.i64.wrap (x - (1 : Int))).toNat * 6 + 0)) ≥ intOf' (getD' undef (rels rs) (0 + x.toNat * 6))) = true) ∧ decide (intOf' (getD' undef (rels rs) (0 + (IntKind.i64.wrap (x - (1 : Int))).toNat * 6 + 0)) ≥ intOf' (getD' undef (rels rs) (0 + x.toNat * 6))) = true) ∧ decide (intOf' (getD' undef (rels rs) (0 + (IntKind.i64.wrap (x - (1 : Int))).toNat * 6 + 0)) ≥ intOf' (getD' undef (rels rs) (0 + x.toNat * 6))) = true) ∧ decide (intOf' (getD' undef (rels rs) (0 + (IntKind.i64.wrap (x - (1 : Int))).toNat * 6 + 0)) ≥ intOf' (getD' undef (rels rs) (0 + x.toNat * 6))) = true) ∧ decide (intOf' (getD' undef (rels rs) (0 + (IntKind.i64.wrap (x - (1 : Int))).toNat * 6 + 0)) ≥ intOf' (getD' undef (rels rs) (0 + x.toNat * 6))) = true) ∧ decide (intOf' (getD' undef (rels rs) (0 + (IntKind.i64.wrap (x - (1 : Int))).toNat * 6 + 0)) ≥ intOf' (getD' undef (rels rs) (0 + x.toNat * 6))) = true) ∧ decide (intOf' (getD' undef (rels rs) (0 + (IntKind.i64.wrap (x - (1 : Int))).toNat * 6 + 0)) ≥ intOf' (getD' undef (rels rs) (0 + x.toNat * 6))) = true) ∧ true = true : St }) := by kernel_rfl
theorem rl_c0 (pages : Int) (stack : Int) (types : Int) (nc : Nat) (nr : Nat) (ns : Nat) (data : List UInt8) (a : Int) (b : Int) (c : Int) (d : Int) (e : Int) (f : Int) (g : Int) (h : Int) (rs : List Rl) : evF Try.prog (baseC 3 selK) noLoop 100 10 30 [imgV pages stack types nc nr ns data, layW a b c d e f g h, Value.int IntKind.i64 (0 : Int)] { n := 67, h := [(65, { rw := false, op := some (0, 0), cells := rels rs, it := none : Sy.Blk })], lo := [], esc := 0, T := [(0, false), (1, false), (2, false), (3, false), (4, false), (5, false), (6, false), (7, false), (8, false), (9, false), (10, false), (11, false), (12, false), (13, false), (14, false), (15, false), (16, false), (17, false), (18, false), (19, false), (20, false), (21, false), (22, false), (23, false), (24, false), (25, false), (26, true)], k := 0, O := True : St } = some (Value.bool false, { n := 70, h := [(65, { rw := false, op := some (0, 0), cells := rels rs, it := none : Sy.Blk })], lo := [], esc := 0, T := [], k := 27, O := (((((((((((((((((((((((((((bif hasN 6 (rels rs) && isLikeL [Value.int IntKind.u32 (0 : Int), Value.bool false, Value.int IntKind.u32 (0 : Int), Value.int IntKind.u32 (0 : Int), Value.int IntKind.u16 (0 : Int), Value.int IntKind.u16 (0 : Int)] (rels rs) 0 then bif decide ((0 : Int) < (↑nr : Int)) then True else False else False) ∧ ((intOf' (getD' undef (rels rs) 0)).tmod (16 : Int) != (0 : Int)) = false) ∧ ((intOf' (getD' undef (rels rs) 0)).tmod (16 : Int) != (0 : Int)) = false) ∧ ((intOf' (getD' undef (rels rs) 0)).tmod (16 : Int) != (0 : Int)) = false) ∧ false = false) ∧ false = false) ∧ false = false) ∧ false = false) ∧ false = false) ∧ false = false) ∧ false = false) ∧ false = false) ∧ false = false) ∧ false = false) ∧ ((intOf' (getD' undef (rels rs) 0)).tmod (16 : Int) != (0 : Int)) = false) ∧ false = false) ∧ ((intOf' (getD' undef (rels rs) 0)).tmod (16 : Int) != (0 : Int)) = false) ∧ false = false) ∧ false = false) ∧ false = false) ∧ false = false) ∧ false = false) ∧ false = false) ∧ false = false) ∧ false = false) ∧ false = false) ∧ false = false) ∧ decide (IntKind.u64.wrap (IntKind.u64.wrap (intOf' (getD' undef (rels rs) 0)) + (16 : Int)) > IntKind.u64.wrap (↑(lenT data) : Int)) = true : St }) := by kernel_rfl
theorem rl_c1 (pages : Int) (stack : Int) (types : Int) (nc : Nat) (nr : Nat) (ns : Nat) (data : List UInt8) (a : Int) (b : Int) (c : Int) (d : Int) (e : Int) (f : Int) (g : Int) (h : Int) (rs : List Rl) (x : Int) : evF Try.prog (baseC 3 selK) noLoop 100 10 30 [imgV pages stack types nc nr ns data, layW a b c d e f g h, Value.int IntKind.i64 x] { n := 67, h := [(65, { rw := false, op := some (0, 0), cells := rels rs, it := none : Sy.Blk })], lo := [], esc := 0, T := [(0, false), (1, false), (2, false), (3, true), (4, true), (5, true), (6, true), (7, true), (8, true), (9, true), (10, true), (11, true), (12, true), (13, false), (14, true), (15, false), (16, false), (17, false), (18, false), (19, false), (20, false), (21, false), (22, false), (23, false), (24, false), (25, false), (26, true)], k := 0, O := True : St } = some (Value.bool false, { n := 70, h := [(65, { rw := false, op := some (0, 0), cells := rels rs, it := none : Sy.Blk })], lo := [], esc := 0, T := [], k := 27, O := (((((((((((((((((bif hasN (0 + (IntKind.i64.wrap (x - (1 : Int))).toNat * 6 + 0 + 1) (rels rs) && isLikeL [Value.int IntKind.u32 (0 : Int)] (rels rs) (0 + (IntKind.i64.wrap (x - (1 : Int))).toNat * 6 + 0) then ((bif decide ((0 : Int) ≤ IntKind.i64.wrap (x - (1 : Int))) && decide (IntKind.i64.wrap (x - (1 : Int)) < (↑nr : Int)) then ((((((((bif hasN (0 + x.toNat * 6 + 6) (rels rs) && isLikeL [Value.int IntKind.u32 (0 : Int), Value.bool false, Value.int IntKind.u32 (0 : Int), Value.int IntKind.u32 (0 : Int), Value.int IntKind.u16 (0 : Int), Value.int IntKind.u16 (0 : Int)] (rels rs) (0 + x.toNat * 6) then bif decide ((0 : Int) ≤ x) && decide (x < (↑nr : Int)) then True else False else False) ∧ ((intOf' (getD' undef (rels rs) (0 + x.toNat * 6))).tmod (16 : Int) != (0 : Int)) = false) ∧ ((intOf' (getD' undef (rels rs) (0 + x.toNat * 6))).tmod (16 : Int) != (0 : Int)) = false) ∧ ((intOf' (getD' undef (rels rs) (0 + x.toNat * 6))).tmod (16 : Int) != (0 : Int)) = false) ∧ decide (x > (0 : Int)) = true) ∧ decide (x > (0 : Int)) = true) ∧ decide (x > (0 : Int)) = true) ∧ decide (x > (0 : Int)) = true) ∧ decide (x > (0 : Int)) = true else False) ∧ decide (x > (0 : Int)) = true) ∧ decide (x > (0 : Int)) = true else False) ∧ decide (x > (0 : Int)) = true) ∧ decide (x > (0 : Int)) = true) ∧ decide (x > (0 : Int)) = true) ∧ ((intOf' (getD' undef (rels rs) (0 + x.toNat * 6))).tmod (16 : Int) != (0 : Int)) = false) ∧ decide (x > (0 : Int)) = true) ∧ ((intOf' (getD' undef (rels rs) (0 + x.toNat * 6))).tmod (16 : Int) != (0 : Int)) = false) ∧ decide (intOf' (getD' undef (rels rs) (0 + (IntKind.i64.wrap (x - (1 : Int))).toNat * 6 + 0)) ≥ intOf' (getD' undef (rels rs) (0 + x.toNat * 6))) = false) ∧ decide (intOf' (getD' undef (rels rs) (0 + (IntKind.i64.wrap (x - (1 : Int))).toNat * 6 + 0)) ≥ intOf' (getD' undef (rels rs) (0 + x.toNat * 6))) = false) ∧ decide (intOf' (getD' undef (rels rs) (0 + (IntKind.i64.wrap (x - (1 : Int))).toNat * 6 + 0)) ≥ intOf' (getD' undef (rels rs) (0 + x.toNat * 6))) = false) ∧ decide (intOf' (getD' undef (rels rs) (0 + (IntKind.i64.wrap (x - (1 : Int))).toNat * 6 + 0)) ≥ intOf' (getD' undef (rels rs) (0 + x.toNat * 6))) = false) ∧ decide (intOf' (getD' undef (rels rs) (0 + (IntKind.i64.wrap (x - (1 : Int))).toNat * 6 + 0)) ≥ intOf' (getD' undef (rels rs) (0 + x.toNat * 6))) = false) ∧ decide (intOf' (getD' undef (rels rs) (0 + (IntKind.i64.wrap (x - (1 : Int))).toNat * 6 + 0)) ≥ intOf' (getD' undef (rels rs) (0 + x.toNat * 6))) = false) ∧ decide (intOf' (getD' undef (rels rs) (0 + (IntKind.i64.wrap (x - (1 : Int))).toNat * 6 + 0)) ≥ intOf' (getD' undef (rels rs) (0 + x.toNat * 6))) = false) ∧ decide (intOf' (getD' undef (rels rs) (0 + (IntKind.i64.wrap (x - (1 : Int))).toNat * 6 + 0)) ≥ intOf' (getD' undef (rels rs) (0 + x.toNat * 6))) = false) ∧ decide (intOf' (getD' undef (rels rs) (0 + (IntKind.i64.wrap (x - (1 : Int))).toNat * 6 + 0)) ≥ intOf' (getD' undef (rels rs) (0 + x.toNat * 6))) = false) ∧ decide (intOf' (getD' undef (rels rs) (0 + (IntKind.i64.wrap (x - (1 : Int))).toNat * 6 + 0)) ≥ intOf' (getD' undef (rels rs) (0 + x.toNat * 6))) = false) ∧ decide (IntKind.u64.wrap (IntKind.u64.wrap (intOf' (getD' undef (rels rs) (0 + x.toNat * 6))) + (16 : Int)) > IntKind.u64.wrap (↑(lenT data) : Int)) = true : St }) := by kernel_rfl
theorem rl_d0d (pages : Int) (stack : Int) (types : Int) (nc : Nat) (nr : Nat) (ns : Nat) (data : List UInt8) (a : Int) (b : Int) (c : Int) (d : Int) (e : Int) (f : Int) (g : Int) (h : Int) (rs : List Rl) : evF Try.prog (baseC 3 selK) noLoop 100 10 30 [imgV pages stack types nc nr ns data, layW a b c d e f g h, Value.int IntKind.i64 (0 : Int)] { n := 67, h := [(65, { rw := false, op := some (0, 0), cells := rels rs, it := none : Sy.Blk })], lo := [], esc := 0, T := [(0, false), (1, false), (2, false), (3, false), (4, false), (5, false), (6, false), (7, false), (8, false), (9, false), (10, false), (11, false), (12, false), (13, false), (14, false), (15, false), (16, false), (17, false), (18, false), (19, false), (20, false), (21, false), (22, false), (23, false), (24, false), (25, false), (26, false), (27, false), (28, true), (29, true), (30, true), (31, true), (32, true), (33, true), (34, true), (35, true), (36, true), (37, true), (38, true), (39, true), (40, true), (41, true)], k := 0, O := True : St } = some (Value.bool false, { n := 70, h := [(65, { rw := false, op := some (0, 0), cells := rels rs, it := none : Sy.Blk })], lo := [], esc := 0, T := [], k := 42, O := ((((((((((((((((((((((((((((((((((((((((((bif hasN 6 (rels rs) && isLikeL [Value.int IntKind.u32 (0 : Int), Value.bool false, Value.int IntKind.u32 (0 : Int), Value.int IntKind.u32 (0 : Int), Value.int IntKind.u16 (0 : Int), Value.int IntKind.u16 (0 : Int)] (rels rs) 0 then bif decide ((0 : Int) < (↑nr : Int)) then True else False else False) ∧ ((intOf' (getD' undef (rels rs) 0)).tmod (16 : Int) != (0 : Int)) = false) ∧ ((intOf' (getD' undef (rels rs) 0)).tmod (16 : Int) != (0 : Int)) = false) ∧ ((intOf' (getD' undef (rels rs) 0)).tmod (16 : Int) != (0 : Int)) = false) ∧ false = false) ∧ false = false) ∧ false = false) ∧ false = false) ∧ false = false) ∧ false = false) ∧ false = false) ∧ false = false) ∧ false = false) ∧ false = false) ∧ ((intOf' (getD' undef (rels rs) 0)).tmod (16 : Int) != (0 : Int)) = false) ∧ false = false) ∧ ((intOf' (getD' undef (rels rs) 0)).tmod (16 : Int) != (0 : Int)) = false) ∧ false = false) ∧ false = false) ∧ false = false) ∧ false = false) ∧ false = false) ∧ false = false) ∧ false = false) ∧ false = false) ∧ false = false) ∧ false = false) ∧ decide (IntKind.u64.wrap (IntKind.u64.wrap (intOf' (getD' undef (rels rs) 0)) + (16 : Int)) > IntKind.u64.wrap (↑(lenT data) : Int)) = false) ∧ boolOf' (getD' undef (rels rs) 1) = false) ∧ decide (IntKind.u64.wrap (IntKind.u64.wrap (intOf' (getD' undef (rels rs) 2)) + IntKind.u64.wrap (intOf' (getD' undef (rels rs) 3))) > IntKind.u64.wrap (↑(lenT data) : Int)) = true) ∧ decide (IntKind.u64.wrap (IntKind.u64.wrap (intOf' (getD' undef (rels rs) 2)) + IntKind.u64.wrap (intOf' (getD' undef (rels rs) 3))) > IntKind.u64.wrap (↑(lenT data) : Int)) = true) ∧ decide (IntKind.u64.wrap (IntKind.u64.wrap (intOf' (getD' undef (rels rs) 2)) + IntKind.u64.wrap (intOf' (getD' undef (rels rs) 3))) > IntKind.u64.wrap (↑(lenT data) : Int)) = true) ∧ decide (IntKind.u64.wrap (IntKind.u64.wrap (intOf' (getD' undef (rels rs) 2)) + IntKind.u64.wrap (intOf' (getD' undef (rels rs) 3))) > IntKind.u64.wrap (↑(lenT data) : Int)) = true) ∧ decide (IntKind.u64.wrap (IntKind.u64.wrap (intOf' (getD' undef (rels rs) 2)) + IntKind.u64.wrap (intOf' (getD' undef (rels rs) 3))) > IntKind.u64.wrap (↑(lenT data) : Int)) = true) ∧ decide (IntKind.u64.wrap (IntKind.u64.wrap (intOf' (getD' undef (rels rs) 2)) + IntKind.u64.wrap (intOf' (getD' undef (rels rs) 3))) > IntKind.u64.wrap (↑(lenT data) : Int)) = true) ∧ true = true) ∧ true = true) ∧ true = true) ∧ true = true) ∧ true = true) ∧ true = true) ∧ true = true) ∧ true = true : St }) := by kernel_rfl
theorem rl_e0d (pages : Int) (stack : Int) (types : Int) (nc : Nat) (nr : Nat) (ns : Nat) (data : List UInt8) (a : Int) (b : Int) (c : Int) (d : Int) (e : Int) (f : Int) (g : Int) (h : Int) (rs : List Rl) : evF Try.prog (baseC 3 selK) noLoop 100 10 30 [imgV pages stack types nc nr ns data, layW a b c d e f g h, Value.int IntKind.i64 (0 : Int)] { n := 67, h := [(65, { rw := false, op := some (0, 0), cells := rels rs, it := none : Sy.Blk })], lo := [], esc := 0, T := [(0, false), (1, false), (2, false), (3, false), (4, false), (5, false), (6, false), (7, false), (8, false), (9, false), (10, false), (11, false), (12, false), (13, false), (14, false), (15, false), (16, false), (17, false), (18, false), (19, false), (20, false), (21, false), (22, false), (23, false), (24, false), (25, false), (26, false), (27, false), (28, false), (29, false), (30, false), (31, false), (32, false), (33, false), (34, true), (35, true), (36, true), (37, true), (38, true), (39, true), (40, true), (41, true)], k := 0, O := True : St } = some (Value.bool false, { n := 70, h := [(65, { rw := false, op := some (0, 0), cells := rels rs, it := none : Sy.Blk })], lo := [], esc := 0, T := [], k := 42, O := ((((((((((((((((((((((((((((((((((((((((((bif hasN 6 (rels rs) && isLikeL [Value.int IntKind.u32 (0 : Int), Value.bool false, Value.int IntKind.u32 (0 : Int), Value.int IntKind.u32 (0 : Int), Value.int IntKind.u16 (0 : Int), Value.int IntKind.u16 (0 : Int)] (rels rs) 0 then bif decide ((0 : Int) < (↑nr : Int)) then True else False else False) ∧ ((intOf' (getD' undef (rels rs) 0)).tmod (16 : Int) != (0 : Int)) = false) ∧ ((intOf' (getD' undef (rels rs) 0)).tmod (16 : Int) != (0 : Int)) = false) ∧ ((intOf' (getD' undef (rels rs) 0)).tmod (16 : Int) != (0 : Int)) = false) ∧ false = false) ∧ false = false) ∧ false = false) ∧ false = false) ∧ false = false) ∧ false = false) ∧ false = false) ∧ false = false) ∧ false = false) ∧ false = false) ∧ ((intOf' (getD' undef (rels rs) 0)).tmod (16 : Int) != (0 : Int)) = false) ∧ false = false) ∧ ((intOf' (getD' undef (rels rs) 0)).tmod (16 : Int) != (0 : Int)) = false) ∧ false = false) ∧ false = false) ∧ false = false) ∧ false = false) ∧ false = false) ∧ false = false) ∧ false = false) ∧ false = false) ∧ false = false) ∧ false = false) ∧ decide (IntKind.u64.wrap (IntKind.u64.wrap (intOf' (getD' undef (rels rs) 0)) + (16 : Int)) > IntKind.u64.wrap (↑(lenT data) : Int)) = false) ∧ boolOf' (getD' undef (rels rs) 1) = false) ∧ decide (IntKind.u64.wrap (IntKind.u64.wrap (intOf' (getD' undef (rels rs) 2)) + IntKind.u64.wrap (intOf' (getD' undef (rels rs) 3))) > IntKind.u64.wrap (↑(lenT data) : Int)) = false) ∧ decide (IntKind.u64.wrap (IntKind.u64.wrap (intOf' (getD' undef (rels rs) 2)) + IntKind.u64.wrap (intOf' (getD' undef (rels rs) 3))) > IntKind.u64.wrap (↑(lenT data) : Int)) = false) ∧ decide (IntKind.u64.wrap (IntKind.u64.wrap (intOf' (getD' undef (rels rs) 2)) + IntKind.u64.wrap (intOf' (getD' undef (rels rs) 3))) > IntKind.u64.wrap (↑(lenT data) : Int)) = false) ∧ decide (IntKind.u64.wrap (IntKind.u64.wrap (intOf' (getD' undef (rels rs) 2)) + IntKind.u64.wrap (intOf' (getD' undef (rels rs) 3))) > IntKind.u64.wrap (↑(lenT data) : Int)) = false) ∧ decide (IntKind.u64.wrap (IntKind.u64.wrap (intOf' (getD' undef (rels rs) 2)) + IntKind.u64.wrap (intOf' (getD' undef (rels rs) 3))) > IntKind.u64.wrap (↑(lenT data) : Int)) = false) ∧ decide (IntKind.u64.wrap (IntKind.u64.wrap (intOf' (getD' undef (rels rs) 2)) + IntKind.u64.wrap (intOf' (getD' undef (rels rs) 3))) > IntKind.u64.wrap (↑(lenT data) : Int)) = false) ∧ (bits BinOp.andNot IntKind.u16 (intOf' (getD' undef (rels rs) 4)) (155 : Int) != (0 : Int)) = true) ∧ (bits BinOp.andNot IntKind.u16 (intOf' (getD' undef (rels rs) 4)) (155 : Int) != (0 : Int)) = true) ∧ (bits BinOp.andNot IntKind.u16 (intOf' (getD' undef (rels rs) 4)) (155 : Int) != (0 : Int)) = true) ∧ (bits BinOp.andNot IntKind.u16 (intOf' (getD' undef (rels rs) 4)) (155 : Int) != (0 : Int)) = true) ∧ (bits BinOp.andNot IntKind.u16 (intOf' (getD' undef (rels rs) 4)) (155 : Int) != (0 : Int)) = true) ∧ (bits BinOp.andNot IntKind.u16 (intOf' (getD' undef (rels rs) 4)) (155 : Int) != (0 : Int)) = true) ∧ (bits BinOp.andNot IntKind.u16 (intOf' (getD' undef (rels rs) 4)) (155 : Int) != (0 : Int)) = true) ∧ true = true : St }) := by kernel_rfl
theorem rl_f0d (pages : Int) (stack : Int) (types : Int) (nc : Nat) (nr : Nat) (ns : Nat) (data : List UInt8) (a : Int) (b : Int) (c : Int) (d : Int) (e : Int) (f : Int) (g : Int) (h : Int) (rs : List Rl) : evF Try.prog (baseC 3 selK) noLoop 100 10 30 [imgV pages stack types nc nr ns data, layW a b c d e f g h, Value.int IntKind.i64 (0 : Int)] { n := 67, h := [(65, { rw := false, op := some (0, 0), cells := rels rs, it := none : Sy.Blk })], lo := [], esc := 0, T := [(0, false), (1, false), (2, false), (3, false), (4, false), (5, false), (6, false), (7, false), (8, false), (9, false), (10, false), (11, false), (12, false), (13, false), (14, false), (15, false), (16, false), (17, false), (18, false), (19, false), (20, false), (21, false), (22, false), (23, false), (24, false), (25, false), (26, false), (27, false), (28, false), (29, false), (30, false), (31, false), (32, false), (33, false), (34, false), (35, false), (36, false), (37, false), (38, false), (39, false), (40, false), (41, true)], k := 0, O := True : St } = some (Value.bool false, { n := 70, h := [(65, { rw := false, op := some (0, 0), cells := rels rs, it := none : Sy.Blk })], lo := [], esc := 0, T := [], k := 42, O := ((((((((((((((((((((((((((((((((((((((((((bif hasN 6 (rels rs) && isLikeL [Value.int IntKind.u32 (0 : Int), Value.bool false, Value.int IntKind.u32 (0 : Int), Value.int IntKind.u32 (0 : Int), Value.int IntKind.u16 (0 : Int), Value.int IntKind.u16 (0 : Int)] (rels rs) 0 then bif decide ((0 : Int) < (↑nr : Int)) then True else False else False) ∧ ((intOf' (getD' undef (rels rs) 0)).tmod (16 : Int) != (0 : Int)) = false) ∧ ((intOf' (getD' undef (rels rs) 0)).tmod (16 : Int) != (0 : Int)) = false) ∧ ((intOf' (getD' undef (rels rs) 0)).tmod (16 : Int) != (0 : Int)) = false) ∧ false = false) ∧ false = false) ∧ false = false) ∧ false = false) ∧ false = false) ∧ false = false) ∧ false = false) ∧ false = false) ∧ false = false) ∧ false = false) ∧ ((intOf' (getD' undef (rels rs) 0)).tmod (16 : Int) != (0 : Int)) = false) ∧ false = false) ∧ ((intOf' (getD' undef (rels rs) 0)).tmod (16 : Int) != (0 : Int)) = false) ∧ false = false) ∧ false = false) ∧ false = false) ∧ false = false) ∧ false = false) ∧ false = false) ∧ false = false) ∧ false = false) ∧ false = false) ∧ false = false) ∧ decide (IntKind.u64.wrap (IntKind.u64.wrap (intOf' (getD' undef (rels rs) 0)) + (16 : Int)) > IntKind.u64.wrap (↑(lenT data) : Int)) = false) ∧ boolOf' (getD' undef (rels rs) 1) = false) ∧ decide (IntKind.u64.wrap (IntKind.u64.wrap (intOf' (getD' undef (rels rs) 2)) + IntKind.u64.wrap (intOf' (getD' undef (rels rs) 3))) > IntKind.u64.wrap (↑(lenT data) : Int)) = false) ∧ decide (IntKind.u64.wrap (IntKind.u64.wrap (intOf' (getD' undef (rels rs) 2)) + IntKind.u64.wrap (intOf' (getD' undef (rels rs) 3))) > IntKind.u64.wrap (↑(lenT data) : Int)) = false) ∧ decide (IntKind.u64.wrap (IntKind.u64.wrap (intOf' (getD' undef (rels rs) 2)) + IntKind.u64.wrap (intOf' (getD' undef (rels rs) 3))) > IntKind.u64.wrap (↑(lenT data) : Int)) = false) ∧ decide (IntKind.u64.wrap (IntKind.u64.wrap (intOf' (getD' undef (rels rs) 2)) + IntKind.u64.wrap (intOf' (getD' undef (rels rs) 3))) > IntKind.u64.wrap (↑(lenT data) : Int)) = false) ∧ decide (IntKind.u64.wrap (IntKind.u64.wrap (intOf' (getD' undef (rels rs) 2)) + IntKind.u64.wrap (intOf' (getD' undef (rels rs) 3))) > IntKind.u64.wrap (↑(lenT data) : Int)) = false) ∧ decide (IntKind.u64.wrap (IntKind.u64.wrap (intOf' (getD' undef (rels rs) 2)) + IntKind.u64.wrap (intOf' (getD' undef (rels rs) 3))) > IntKind.u64.wrap (↑(lenT data) : Int)) = false) ∧ (bits BinOp.andNot IntKind.u16 (intOf' (getD' undef (rels rs) 4)) (155 : Int) != (0 : Int)) = false) ∧ (bits BinOp.andNot IntKind.u16 (intOf' (getD' undef (rels rs) 4)) (155 : Int) != (0 : Int)) = false) ∧ (bits BinOp.andNot IntKind.u16 (intOf' (getD' undef (rels rs) 4)) (155 : Int) != (0 : Int)) = false) ∧ (bits BinOp.andNot IntKind.u16 (intOf' (getD' undef (rels rs) 4)) (155 : Int) != (0 : Int)) = false) ∧ (bits BinOp.andNot IntKind.u16 (intOf' (getD' undef (rels rs) 4)) (155 : Int) != (0 : Int)) = false) ∧ (bits BinOp.andNot IntKind.u16 (intOf' (getD' undef (rels rs) 4)) (155 : Int) != (0 : Int)) = false) ∧ (bits BinOp.andNot IntKind.u16 (intOf' (getD' undef (rels rs) 4)) (155 : Int) != (0 : Int)) = false) ∧ decide (IntKind.i64.wrap (intOf' (getD' undef (rels rs) 5)) > types) = true : St }) := by kernel_rfl
theorem rl_g0d (pages : Int) (stack : Int) (types : Int) (nc : Nat) (nr : Nat) (ns : Nat) (data : List UInt8) (a : Int) (b : Int) (c : Int) (d : Int) (e : Int) (f : Int) (g : Int) (h : Int) (rs : List Rl) : evF Try.prog (baseC 3 selK) noLoop 100 10 30 [imgV pages stack types nc nr ns data, layW a b c d e f g h, Value.int IntKind.i64 (0 : Int)] { n := 67, h := [(65, { rw := false, op := some (0, 0), cells := rels rs, it := none : Sy.Blk })], lo := [], esc := 0, T := [(0, false), (1, false), (2, false), (3, false), (4, false), (5, false), (6, false), (7, false), (8, false), (9, false), (10, false), (11, false), (12, false), (13, false), (14, false), (15, false), (16, false), (17, false), (18, false), (19, false), (20, false), (21, false), (22, false), (23, false), (24, false), (25, false), (26, false), (27, false), (28, false), (29, false), (30, false), (31, false), (32, false), (33, false), (34, false), (35, false), (36, false), (37, false), (38, false), (39, false), (40, false), (41, false), (42, true), (43, true)], k := 0, O := True : St } = some (Value.bool (encX (IntKind.u32.wrap (c + intOf' (getD' undef (rels rs) 2))).toNat (IntKind.u64.wrap (IntKind.u64.wrap (IntKind.u32.wrap (c + intOf' (getD' undef (rels rs) 2))) + IntKind.u64.wrap (intOf' (getD' undef (rels rs) 3)))).toNat), { n := 70, h := [(65, { rw := false, op := some (0, 0), cells := rels rs, it := none : Sy.Blk })], lo := [], esc := 0, T := [], k := 44, O := (((((((((((((((((((((((((((((((((((((((((((((bif hasN 6 (rels rs) && isLikeL [Value.int IntKind.u32 (0 : Int), Value.bool false, Value.int IntKind.u32 (0 : Int), Value.int IntKind.u32 (0 : Int), Value.int IntKind.u16 (0 : Int), Value.int IntKind.u16 (0 : Int)] (rels rs) 0 then bif decide ((0 : Int) < (↑nr : Int)) then True else False else False) ∧ ((intOf' (getD' undef (rels rs) 0)).tmod (16 : Int) != (0 : Int)) = false) ∧ ((intOf' (getD' undef (rels rs) 0)).tmod (16 : Int) != (0 : Int)) = false) ∧ ((intOf' (getD' undef (rels rs) 0)).tmod (16 : Int) != (0 : Int)) = false) ∧ false = false) ∧ false = false) ∧ false = false) ∧ false = false) ∧ false = false) ∧ false = false) ∧ false = false) ∧ false = false) ∧ false = false) ∧ false = false) ∧ ((intOf' (getD' undef (rels rs) 0)).tmod (16 : Int) != (0 : Int)) = false) ∧ false = false) ∧ ((intOf' (getD' undef (rels rs) 0)).tmod (16 : Int) != (0 : Int)) = false) ∧ false = false) ∧ false = false) ∧ false = false) ∧ false = false) ∧ false = false) ∧ false = false) ∧ false = false) ∧ false = false) ∧ false = false) ∧ false = false) ∧ decide (IntKind.u64.wrap (IntKind.u64.wrap (intOf' (getD' undef (rels rs) 0)) + (16 : Int)) > IntKind.u64.wrap (↑(lenT data) : Int)) = false) ∧ boolOf' (getD' undef (rels rs) 1) = false) ∧ decide (IntKind.u64.wrap (IntKind.u64.wrap (intOf' (getD' undef (rels rs) 2)) + IntKind.u64.wrap (intOf' (getD' undef (rels rs) 3))) > IntKind.u64.wrap (↑(lenT data) : Int)) = false) ∧ decide (IntKind.u64.wrap (IntKind.u64.wrap (intOf' (getD' undef (rels rs) 2)) + IntKind.u64.wrap (intOf' (getD' undef (rels rs) 3))) > IntKind.u64.wrap (↑(lenT data) : Int)) = false) ∧ decide (IntKind.u64.wrap (IntKind.u64.wrap (intOf' (getD' undef (rels rs) 2)) + IntKind.u64.wrap (intOf' (getD' undef (rels rs) 3))) > IntKind.u64.wrap (↑(lenT data) : Int)) = false) ∧ decide (IntKind.u64.wrap (IntKind.u64.wrap (intOf' (getD' undef (rels rs) 2)) + IntKind.u64.wrap (intOf' (getD' undef (rels rs) 3))) > IntKind.u64.wrap (↑(lenT data) : Int)) = false) ∧ decide (IntKind.u64.wrap (IntKind.u64.wrap (intOf' (getD' undef (rels rs) 2)) + IntKind.u64.wrap (intOf' (getD' undef (rels rs) 3))) > IntKind.u64.wrap (↑(lenT data) : Int)) = false) ∧ decide (IntKind.u64.wrap (IntKind.u64.wrap (intOf' (getD' undef (rels rs) 2)) + IntKind.u64.wrap (intOf' (getD' undef (rels rs) 3))) > IntKind.u64.wrap (↑(lenT data) : Int)) = false) ∧ (bits BinOp.andNot IntKind.u16 (intOf' (getD' undef (rels rs) 4)) (155 : Int) != (0 : Int)) = false) ∧ (bits BinOp.andNot IntKind.u16 (intOf' (getD' undef (rels rs) 4)) (155 : Int) != (0 : Int)) = false) ∧ (bits BinOp.andNot IntKind.u16 (intOf' (getD' undef (rels rs) 4)) (155 : Int) != (0 : Int)) = false) ∧ (bits BinOp.andNot IntKind.u16 (intOf' (getD' undef (rels rs) 4)) (155 : Int) != (0 : Int)) = false) ∧ (bits BinOp.andNot IntKind.u16 (intOf' (getD' undef (rels rs) 4)) (155 : Int) != (0 : Int)) = false) ∧ (bits BinOp.andNot IntKind.u16 (intOf' (getD' undef (rels rs) 4)) (155 : Int) != (0 : Int)) = false) ∧ (bits BinOp.andNot IntKind.u16 (intOf' (getD' undef (rels rs) 4)) (155 : Int) != (0 : Int)) = false) ∧ decide (IntKind.i64.wrap (intOf' (getD' undef (rels rs) 5)) > types) = false) ∧ (((0 : Int) ≤ IntKind.u32.wrap (c + intOf' (getD' undef (rels rs) 2)) ∧ IntKind.u32.wrap (c + intOf' (getD' undef (rels rs) 2)) < (4294967296 : Int)) ∧ (0 : Int) ≤ IntKind.u64.wrap (IntKind.u64.wrap (IntKind.u32.wrap (c + intOf' (getD' undef (rels rs) 2))) + IntKind.u64.wrap (intOf' (getD' undef (rels rs) 3))) ∧ IntKind.u64.wrap (IntKind.u64.wrap (IntKind.u32.wrap (c + intOf' (getD' undef (rels rs) 2))) + IntKind.u64.wrap (intOf' (getD' undef (rels rs) 3))) < (18446744073709551616 : Int)) ∧ (Value.int IntKind.u32 (IntKind.u32.wrap (c + intOf' (getD' undef (rels rs) 2))) = Value.int IntKind.u32 (IntKind.u32.wrap (c + intOf' (getD' undef (rels rs) 2))) ∧ Value.int IntKind.u64 (IntKind.u64.wrap (IntKind.u64.wrap (IntKind.u32.wrap (c + intOf' (getD' undef (rels rs) 2))) + IntKind.u64.wrap (intOf' (getD' undef (rels rs) 3)))) = Value.int IntKind.u64 (IntKind.u64.wrap (IntKind.u64.wrap (IntKind.u32.wrap (c + intOf' (getD' undef (rels rs) 2))) + IntKind.u64.wrap (intOf' (getD' undef (rels rs) 3)))) ∧ True) ∧ True ∧ True) ∧ rightN (IntKind.u32.wrap (c + intOf' (getD' undef (rels rs) 2))).toNat (IntKind.u64.wrap (IntKind.u64.wrap (IntKind.u32.wrap (c + intOf' (getD' undef (rels rs) 2))) + IntKind.u64.wrap (intOf' (getD' undef (rels rs) 3)))).toNat = true) ∧ rightN (IntKind.u32.wrap (c + intOf' (getD' undef (rels rs) 2))).toNat (IntKind.u64.wrap (IntKind.u64.wrap (IntKind.u32.wrap (c + intOf' (getD' undef (rels rs) 2))) + IntKind.u64.wrap (intOf' (getD' undef (rels rs) 3)))).toNat = true : St }) := by kernel_rfl
theorem rl_d0c (pages : Int) (stack : Int) (types : Int) (nc : Nat) (nr : Nat) (ns : Nat) (data : List UInt8) (a : Int) (b : Int) (c : Int) (d : Int) (e : Int) (f : Int) (g : Int) (h : Int) (rs : List Rl) : evF Try.prog (baseC 3 selK) noLoop 100 10 30 [imgV pages stack types nc nr ns data, layW a b c d e f g h, Value.int IntKind.i64 (0 : Int)] { n := 67, h := [(65, { rw := false, op := some (0, 0), cells := rels rs, it := none : Sy.Blk })], lo := [], esc := 0, T := [(0, false), (1, false), (2, false), (3, false), (4, false), (5, false), (6, false), (7, false), (8, false), (9, false), (10, false), (11, false), (12, false), (13, false), (14, false), (15, false), (16, false), (17, false), (18, false), (19, false), (20, false), (21, false), (22, false), (23, false), (24, false), (25, false), (26, false), (27, true), (28, true), (29, true), (30, true), (31, true), (32, true), (33, true), (34, true), (35, true), (36, true), (37, true), (38, true), (39, true), (40, true), (41, true)], k := 0, O := True : St } = some (Value.bool false, { n := 70, h := [(65, { rw := false, op := some (0, 0), cells := rels rs, it := none : Sy.Blk })], lo := [], esc := 0, T := [], k := 42, O := ((((((((((((((((((((((((((((((((((((((((((bif hasN 6 (rels rs) && isLikeL [Value.int IntKind.u32 (0 : Int), Value.bool false, Value.int IntKind.u32 (0 : Int), Value.int IntKind.u32 (0 : Int), Value.int IntKind.u16 (0 : Int), Value.int IntKind.u16 (0 : Int)] (rels rs) 0 then bif decide ((0 : Int) < (↑nr : Int)) then True else False else False) ∧ ((intOf' (getD' undef (rels rs) 0)).tmod (16 : Int) != (0 : Int)) = false) ∧ ((intOf' (getD' undef (rels rs) 0)).tmod (16 : Int) != (0 : Int)) = false) ∧ ((intOf' (getD' undef (rels rs) 0)).tmod (16 : Int) != (0 : Int)) = false) ∧ false = false) ∧ false = false) ∧ false = false) ∧ false = false) ∧ false = false) ∧ false = false) ∧ false = false) ∧ false = false) ∧ false = false) ∧ false = false) ∧ ((intOf' (getD' undef (rels rs) 0)).tmod (16 : Int) != (0 : Int)) = false) ∧ false = false) ∧ ((intOf' (getD' undef (rels rs) 0)).tmod (16 : Int) != (0 : Int)) = false) ∧ false = false) ∧ false = false) ∧ false = false) ∧ false = false) ∧ false = false) ∧ false = false) ∧ false = false) ∧ false = false) ∧ false = false) ∧ false = false) ∧ decide (IntKind.u64.wrap (IntKind.u64.wrap (intOf' (getD' undef (rels rs) 0)) + (16 : Int)) > IntKind.u64.wrap (↑(lenT data) : Int)) = false) ∧ boolOf' (getD' undef (rels rs) 1) = true) ∧ decide (IntKind.u64.wrap (IntKind.u64.wrap (intOf' (getD' undef (rels rs) 2)) + IntKind.u64.wrap (intOf' (getD' undef (rels rs) 3))) > IntKind.u64.wrap ((4 : Int) * IntKind.u64.wrap (↑nc : Int))) = true) ∧ decide (IntKind.u64.wrap (IntKind.u64.wrap (intOf' (getD' undef (rels rs) 2)) + IntKind.u64.wrap (intOf' (getD' undef (rels rs) 3))) > IntKind.u64.wrap ((4 : Int) * IntKind.u64.wrap (↑nc : Int))) = true) ∧ decide (IntKind.u64.wrap (IntKind.u64.wrap (intOf' (getD' undef (rels rs) 2)) + IntKind.u64.wrap (intOf' (getD' undef (rels rs) 3))) > IntKind.u64.wrap ((4 : Int) * IntKind.u64.wrap (↑nc : Int))) = true) ∧ decide (IntKind.u64.wrap (IntKind.u64.wrap (intOf' (getD' undef (rels rs) 2)) + IntKind.u64.wrap (intOf' (getD' undef (rels rs) 3))) > IntKind.u64.wrap ((4 : Int) * IntKind.u64.wrap (↑nc : Int))) = true) ∧ decide (IntKind.u64.wrap (IntKind.u64.wrap (intOf' (getD' undef (rels rs) 2)) + IntKind.u64.wrap (intOf' (getD' undef (rels rs) 3))) > IntKind.u64.wrap ((4 : Int) * IntKind.u64.wrap (↑nc : Int))) = true) ∧ decide (IntKind.u64.wrap (IntKind.u64.wrap (intOf' (getD' undef (rels rs) 2)) + IntKind.u64.wrap (intOf' (getD' undef (rels rs) 3))) > IntKind.u64.wrap ((4 : Int) * IntKind.u64.wrap (↑nc : Int))) = true) ∧ true = true) ∧ true = true) ∧ true = true) ∧ true = true) ∧ true = true) ∧ true = true) ∧ true = true) ∧ true = true : St }) := by kernel_rfl
theorem rl_e0c (pages : Int) (stack : Int) (types : Int) (nc : Nat) (nr : Nat) (ns : Nat) (data : List UInt8) (a : Int) (b : Int) (c : Int) (d : Int) (e : Int) (f : Int) (g : Int) (h : Int) (rs : List Rl) : evF Try.prog (baseC 3 selK) noLoop 100 10 30 [imgV pages stack types nc nr ns data, layW a b c d e f g h, Value.int IntKind.i64 (0 : Int)] { n := 67, h := [(65, { rw := false, op := some (0, 0), cells := rels rs, it := none : Sy.Blk })], lo := [], esc := 0, T := [(0, false), (1, false), (2, false), (3, false), (4, false), (5, false), (6, false), (7, false), (8, false), (9, false), (10, false), (11, false), (12, false), (13, false), (14, false), (15, false), (16, false), (17, false), (18, false), (19, false), (20, false), (21, false), (22, false), (23, false), (24, false), (25, false), (26, false), (27, true), (28, false), (29, false), (30, false), (31, false), (32, false), (33, false), (34, true), (35, true), (36, true), (37, true), (38, true), (39, true), (40, true), (41, true)], k := 0, O := True : St } = some (Value.bool false, { n := 70, h := [(65, { rw := false, op := some (0, 0), cells := rels rs, it := none : Sy.Blk })], lo := [], esc := 0, T := [], k := 42, O := ((((((((((((((((((((((((((((((((((((((((((bif hasN 6 (rels rs) && isLikeL [Value.int IntKind.u32 (0 : Int), Value.bool false, Value.int IntKind.u32 (0 : Int), Value.int IntKind.u32 (0 : Int), Value.int IntKind.u16 (0 : Int), Value.int IntKind.u16 (0 : Int)] (rels rs) 0 then bif decide ((0 : Int) < (↑nr : Int)) then True else False else False) ∧ ((intOf' (getD' undef (rels rs) 0)).tmod (16 : Int) != (0 : Int)) = false) ∧ ((intOf' (getD' undef (rels rs) 0)).tmod (16 : Int) != (0 : Int)) = false) ∧ ((intOf' (getD' undef (rels rs) 0)).tmod (16 : Int) != (0 : Int)) = false) ∧ false = false) ∧ false = false) ∧ false = false) ∧ false = false) ∧ false = false) ∧ false = false) ∧ false = false) ∧ false = false) ∧ false = false) ∧ false = false) ∧ ((intOf' (getD' undef (rels rs) 0)).tmod (16 : Int) != (0 : Int)) = false) ∧ false = false) ∧ ((intOf' (getD' undef (rels rs) 0)).tmod (16 : Int) != (0 : Int)) = false) ∧ false = false) ∧ false = false) ∧ false = false) ∧ false = false) ∧ false = false) ∧ false = false) ∧ false = false) ∧ false = false) ∧ false = false) ∧ false = false) ∧ decide (IntKind.u64.wrap (IntKind.u64.wrap (intOf' (getD' undef (rels rs) 0)) + (16 : Int)) > IntKind.u64.wrap (↑(lenT data) : Int)) = false) ∧ boolOf' (getD' undef (rels rs) 1) = true) ∧ decide (IntKind.u64.wrap (IntKind.u64.wrap (intOf' (getD' undef (rels rs) 2)) + IntKind.u64.wrap (intOf' (getD' undef (rels rs) 3))) > IntKind.u64.wrap ((4 : Int) * IntKind.u64.wrap (↑nc : Int))) = false) ∧ decide (IntKind.u64.wrap (IntKind.u64.wrap (intOf' (getD' undef (rels rs) 2)) + IntKind.u64.wrap (intOf' (getD' undef (rels rs) 3))) > IntKind.u64.wrap ((4 : Int) * IntKind.u64.wrap (↑nc : Int))) = false) ∧ decide (IntKind.u64.wrap (IntKind.u64.wrap (intOf' (getD' undef (rels rs) 2)) + IntKind.u64.wrap (intOf' (getD' undef (rels rs) 3))) > IntKind.u64.wrap ((4 : Int) * IntKind.u64.wrap (↑nc : Int))) = false) ∧ decide (IntKind.u64.wrap (IntKind.u64.wrap (intOf' (getD' undef (rels rs) 2)) + IntKind.u64.wrap (intOf' (getD' undef (rels rs) 3))) > IntKind.u64.wrap ((4 : Int) * IntKind.u64.wrap (↑nc : Int))) = false) ∧ decide (IntKind.u64.wrap (IntKind.u64.wrap (intOf' (getD' undef (rels rs) 2)) + IntKind.u64.wrap (intOf' (getD' undef (rels rs) 3))) > IntKind.u64.wrap ((4 : Int) * IntKind.u64.wrap (↑nc : Int))) = false) ∧ decide (IntKind.u64.wrap (IntKind.u64.wrap (intOf' (getD' undef (rels rs) 2)) + IntKind.u64.wrap (intOf' (getD' undef (rels rs) 3))) > IntKind.u64.wrap ((4 : Int) * IntKind.u64.wrap (↑nc : Int))) = false) ∧ (bits BinOp.andNot IntKind.u16 (intOf' (getD' undef (rels rs) 4)) (133 : Int) != (0 : Int)) = true) ∧ (bits BinOp.andNot IntKind.u16 (intOf' (getD' undef (rels rs) 4)) (133 : Int) != (0 : Int)) = true) ∧ (bits BinOp.andNot IntKind.u16 (intOf' (getD' undef (rels rs) 4)) (133 : Int) != (0 : Int)) = true) ∧ (bits BinOp.andNot IntKind.u16 (intOf' (getD' undef (rels rs) 4)) (133 : Int) != (0 : Int)) = true) ∧ (bits BinOp.andNot IntKind.u16 (intOf' (getD' undef (rels rs) 4)) (133 : Int) != (0 : Int)) = true) ∧ (bits BinOp.andNot IntKind.u16 (intOf' (getD' undef (rels rs) 4)) (133 : Int) != (0 : Int)) = true) ∧ (bits BinOp.andNot IntKind.u16 (intOf' (getD' undef (rels rs) 4)) (133 : Int) != (0 : Int)) = true) ∧ true = true : St }) := by kernel_rfl
theorem rl_f0c (pages : Int) (stack : Int) (types : Int) (nc : Nat) (nr : Nat) (ns : Nat) (data : List UInt8) (a : Int) (b : Int) (c : Int) (d : Int) (e : Int) (f : Int) (g : Int) (h : Int) (rs : List Rl) : evF Try.prog (baseC 3 selK) noLoop 100 10 30 [imgV pages stack types nc nr ns data, layW a b c d e f g h, Value.int IntKind.i64 (0 : Int)] { n := 67, h := [(65, { rw := false, op := some (0, 0), cells := rels rs, it := none : Sy.Blk })], lo := [], esc := 0, T := [(0, false), (1, false), (2, false), (3, false), (4, false), (5, false), (6, false), (7, false), (8, false), (9, false), (10, false), (11, false), (12, false), (13, false), (14, false), (15, false), (16, false), (17, false), (18, false), (19, false), (20, false), (21, false), (22, false), (23, false), (24, false), (25, false), (26, false), (27, true), (28, false), (29, false), (30, false), (31, false), (32, false), (33, false), (34, false), (35, false), (36, false), (37, false), (38, false), (39, false), (40, false), (41, true)], k := 0, O := True : St } = some (Value.bool false, { n := 70, h := [(65, { rw := false, op := some (0, 0), cells := rels rs, it := none : Sy.Blk })], lo := [], esc := 0, T := [], k := 42, O := ((((((((((((((((((((((((((((((((((((((((((bif hasN 6 (rels rs) && isLikeL [Value.int IntKind.u32 (0 : Int), Value.bool false, Value.int IntKind.u32 (0 : Int), Value.int IntKind.u32 (0 : Int), Value.int IntKind.u16 (0 : Int), Value.int IntKind.u16 (0 : Int)] (rels rs) 0 then bif decide ((0 : Int) < (↑nr : Int)) then True else False else False) ∧ ((intOf' (getD' undef (rels rs) 0)).tmod (16 : Int) != (0 : Int)) = false) ∧ ((intOf' (getD' undef (rels rs) 0)).tmod (16 : Int) != (0 : Int)) = false) ∧ ((intOf' (getD' undef (rels rs) 0)).tmod (16 : Int) != (0 : Int)) = false) ∧ false = false) ∧ false = false) ∧ false = false) ∧ false = false) ∧ false = false) ∧ false = false) ∧ false = false) ∧ false = false) ∧ false = false) ∧ false = false) ∧ ((intOf' (getD' undef (rels rs) 0)).tmod (16 : Int) != (0 : Int)) = false) ∧ false = false) ∧ ((intOf' (getD' undef (rels rs) 0)).tmod (16 : Int) != (0 : Int)) = false) ∧ false = false) ∧ false = false) ∧ false = false) ∧ false = false) ∧ false = false) ∧ false = false) ∧ false = false) ∧ false = false) ∧ false = false) ∧ false = false) ∧ decide (IntKind.u64.wrap (IntKind.u64.wrap (intOf' (getD' undef (rels rs) 0)) + (16 : Int)) > IntKind.u64.wrap (↑(lenT data) : Int)) = false) ∧ boolOf' (getD' undef (rels rs) 1) = true) ∧ decide (IntKind.u64.wrap (IntKind.u64.wrap (intOf' (getD' undef (rels rs) 2)) + IntKind.u64.wrap (intOf' (getD' undef (rels rs) 3))) > IntKind.u64.wrap ((4 : Int) * IntKind.u64.wrap (↑nc : Int))) = false) ∧ decide (IntKind.u64.wrap (IntKind.u64.wrap (intOf' (getD' undef (rels rs) 2)) + IntKind.u64.wrap (intOf' (getD' undef (rels rs) 3))) > IntKind.u64.wrap ((4 : Int) * IntKind.u64.wrap (↑nc : Int))) = false) ∧ decide (IntKind.u64.wrap (IntKind.u64.wrap (intOf' (getD' undef (rels rs) 2)) + IntKind.u64.wrap (intOf' (getD' undef (rels rs) 3))) > IntKind.u64.wrap ((4 : Int) * IntKind.u64.wrap (↑nc : Int))) = false) ∧ decide (IntKind.u64.wrap (IntKind.u64.wrap (intOf' (getD' undef (rels rs) 2)) + IntKind.u64.wrap (intOf' (getD' undef (rels rs) 3))) > IntKind.u64.wrap ((4 : Int) * IntKind.u64.wrap (↑nc : Int))) = false) ∧ decide (IntKind.u64.wrap (IntKind.u64.wrap (intOf' (getD' undef (rels rs) 2)) + IntKind.u64.wrap (intOf' (getD' undef (rels rs) 3))) > IntKind.u64.wrap ((4 : Int) * IntKind.u64.wrap (↑nc : Int))) = false) ∧ decide (IntKind.u64.wrap (IntKind.u64.wrap (intOf' (getD' undef (rels rs) 2)) + IntKind.u64.wrap (intOf' (getD' undef (rels rs) 3))) > IntKind.u64.wrap ((4 : Int) * IntKind.u64.wrap (↑nc : Int))) = false) ∧ (bits BinOp.andNot IntKind.u16 (intOf' (getD' undef (rels rs) 4)) (133 : Int) != (0 : Int)) = false) ∧ (bits BinOp.andNot IntKind.u16 (intOf' (getD' undef (rels rs) 4)) (133 : Int) != (0 : Int)) = false) ∧ (bits BinOp.andNot IntKind.u16 (intOf' (getD' undef (rels rs) 4)) (133 : Int) != (0 : Int)) = false) ∧ (bits BinOp.andNot IntKind.u16 (intOf' (getD' undef (rels rs) 4)) (133 : Int) != (0 : Int)) = false) ∧ (bits BinOp.andNot IntKind.u16 (intOf' (getD' undef (rels rs) 4)) (133 : Int) != (0 : Int)) = false) ∧ (bits BinOp.andNot IntKind.u16 (intOf' (getD' undef (rels rs) 4)) (133 : Int) != (0 : Int)) = false) ∧ (bits BinOp.andNot IntKind.u16 (intOf' (getD' undef (rels rs) 4)) (133 : Int) != (0 : Int)) = false) ∧ decide (IntKind.i64.wrap (intOf' (getD' undef (rels rs) 5)) > types) = true : St }) := by kernel_rfl
theorem rl_g0c (pages : Int) (stack : Int) (types : Int) (nc : Nat) (nr : Nat) (ns : Nat) (data : List UInt8) (a : Int) (b : Int) (c : Int) (d : Int) (e : Int) (f : Int) (g : Int) (h : Int) (rs : List Rl) : evF Try.prog (baseC 3 selK) noLoop 100 10 30 [imgV pages stack types nc nr ns data, layW a b c d e f g h, Value.int IntKind.i64 (0 : Int)] { n := 67, h := [(65, { rw := false, op := some (0, 0), cells := rels rs, it := none : Sy.Blk })], lo := [], esc := 0, T := [(0, false), (1, false), (2, false), (3, false), (4, false), (5, false), (6, false), (7, false), (8, false), (9, false), (10, false), (11, false), (12, false), (13, false), (14, false), (15, false), (16, false), (17, false), (18, false), (19, false), (20, false), (21, false), (22, false), (23, false), (24, false), (25, false), (26, false), (27, true), (28, false), (29, false), (30, false), (31, false), (32, false), (33, false), (34, false), (35, false), (36, false), (37, false), (38, false), (39, false), (40, false), (41, false), (42, true), (43, true)], k := 0, O := True : St } = some (Value.bool (encX (IntKind.u32.wrap (a + intOf' (getD' undef (rels rs) 2))).toNat (IntKind.u64.wrap (IntKind.u64.wrap (IntKind.u32.wrap (a + intOf' (getD' undef (rels rs) 2))) + IntKind.u64.wrap (intOf' (getD' undef (rels rs) 3)))).toNat), { n := 70, h := [(65, { rw := false, op := some (0, 0), cells := rels rs, it := none : Sy.Blk })], lo := [], esc := 0, T := [], k := 44, O := (((((((((((((((((((((((((((((((((((((((((((((bif hasN 6 (rels rs) && isLikeL [Value.int IntKind.u32 (0 : Int), Value.bool false, Value.int IntKind.u32 (0 : Int), Value.int IntKind.u32 (0 : Int), Value.int IntKind.u16 (0 : Int), Value.int IntKind.u16 (0 : Int)] (rels rs) 0 then bif decide ((0 : Int) < (↑nr : Int)) then True else False else False) ∧ ((intOf' (getD' undef (rels rs) 0)).tmod (16 : Int) != (0 : Int)) = false) ∧ ((intOf' (getD' undef (rels rs) 0)).tmod (16 : Int) != (0 : Int)) = false) ∧ ((intOf' (getD' undef (rels rs) 0)).tmod (16 : Int) != (0 : Int)) = false) ∧ false = false) ∧ false = false) ∧ false = false) ∧ false = false) ∧ false = false) ∧ false = false) ∧ false = false) ∧ false = false) ∧ false = false) ∧ false = false) ∧ ((intOf' (getD' undef (rels rs) 0)).tmod (16 : Int) != (0 : Int)) = false) ∧ false = false) ∧ ((intOf' (getD' undef (rels rs) 0)).tmod (16 : Int) != (0 : Int)) = false) ∧ false = false) ∧ false = false) ∧ false = false) ∧ false = false) ∧ false = false) ∧ false = false) ∧ false = false) ∧ false = false) ∧ false = false) ∧ false = false) ∧ decide (IntKind.u64.wrap (IntKind.u64.wrap (intOf' (getD' undef (rels rs) 0)) + (16 : Int)) > IntKind.u64.wrap (↑(lenT data) : Int)) = false) ∧ boolOf' (getD' undef (rels rs) 1) = true) ∧ decide (IntKind.u64.wrap (IntKind.u64.wrap (intOf' (getD' undef (rels rs) 2)) + IntKind.u64.wrap (intOf' (getD' undef (rels rs) 3))) > IntKind.u64.wrap ((4 : Int) * IntKind.u64.wrap (↑nc : Int))) = false) ∧ decide (IntKind.u64.wrap (IntKind.u64.wrap (intOf' (getD' undef (rels rs) 2)) + IntKind.u64.wrap (intOf' (getD' undef (rels rs) 3))) > IntKind.u64.wrap ((4 : Int) * IntKind.u64.wrap (↑nc : Int))) = false) ∧ decide (IntKind.u64.wrap (IntKind.u64.wrap (intOf' (getD' undef (rels rs) 2)) + IntKind.u64.wrap (intOf' (getD' undef (rels rs) 3))) > IntKind.u64.wrap ((4 : Int) * IntKind.u64.wrap (↑nc : Int))) = false) ∧ decide (IntKind.u64.wrap (IntKind.u64.wrap (intOf' (getD' undef (rels rs) 2)) + IntKind.u64.wrap (intOf' (getD' undef (rels rs) 3))) > IntKind.u64.wrap ((4 : Int) * IntKind.u64.wrap (↑nc : Int))) = false) ∧ decide (IntKind.u64.wrap (IntKind.u64.wrap (intOf' (getD' undef (rels rs) 2)) + IntKind.u64.wrap (intOf' (getD' undef (rels rs) 3))) > IntKind.u64.wrap ((4 : Int) * IntKind.u64.wrap (↑nc : Int))) = false) ∧ decide (IntKind.u64.wrap (IntKind.u64.wrap (intOf' (getD' undef (rels rs) 2)) + IntKind.u64.wrap (intOf' (getD' undef (rels rs) 3))) > IntKind.u64.wrap ((4 : Int) * IntKind.u64.wrap (↑nc : Int))) = false) ∧ (bits BinOp.andNot IntKind.u16 (intOf' (getD' undef (rels rs) 4)) (133 : Int) != (0 : Int)) = false) ∧ (bits BinOp.andNot IntKind.u16 (intOf' (getD' undef (rels rs) 4)) (133 : Int) != (0 : Int)) = false) ∧ (bits BinOp.andNot IntKind.u16 (intOf' (getD' undef (rels rs) 4)) (133 : Int) != (0 : Int)) = false) ∧ (bits BinOp.andNot IntKind.u16 (intOf' (getD' undef (rels rs) 4)) (133 : Int) != (0 : Int)) = false) ∧ (bits BinOp.andNot IntKind.u16 (intOf' (getD' undef (rels rs) 4)) (133 : Int) != (0 : Int)) = false) ∧ (bits BinOp.andNot IntKind.u16 (intOf' (getD' undef (rels rs) 4)) (133 : Int) != (0 : Int)) = false) ∧ (bits BinOp.andNot IntKind.u16 (intOf' (getD' undef (rels rs) 4)) (133 : Int) != (0 : Int)) = false) ∧ decide (IntKind.i64.wrap (intOf' (getD' undef (rels rs) 5)) > types) = false) ∧ (((0 : Int) ≤ IntKind.u32.wrap (a + intOf' (getD' undef (rels rs) 2)) ∧ IntKind.u32.wrap (a + intOf' (getD' undef (rels rs) 2)) < (4294967296 : Int)) ∧ (0 : Int) ≤ IntKind.u64.wrap (IntKind.u64.wrap (IntKind.u32.wrap (a + intOf' (getD' undef (rels rs) 2))) + IntKind.u64.wrap (intOf' (getD' undef (rels rs) 3))) ∧ IntKind.u64.wrap (IntKind.u64.wrap (IntKind.u32.wrap (a + intOf' (getD' undef (rels rs) 2))) + IntKind.u64.wrap (intOf' (getD' undef (rels rs) 3))) < (18446744073709551616 : Int)) ∧ (Value.int IntKind.u32 (IntKind.u32.wrap (a + intOf' (getD' undef (rels rs) 2))) = Value.int IntKind.u32 (IntKind.u32.wrap (a + intOf' (getD' undef (rels rs) 2))) ∧ Value.int IntKind.u64 (IntKind.u64.wrap (IntKind.u64.wrap (IntKind.u32.wrap (a + intOf' (getD' undef (rels rs) 2))) + IntKind.u64.wrap (intOf' (getD' undef (rels rs) 3)))) = Value.int IntKind.u64 (IntKind.u64.wrap (IntKind.u64.wrap (IntKind.u32.wrap (a + intOf' (getD' undef (rels rs) 2))) + IntKind.u64.wrap (intOf' (getD' undef (rels rs) 3)))) ∧ True) ∧ True ∧ True) ∧ rightN (IntKind.u32.wrap (a + intOf' (getD' undef (rels rs) 2))).toNat (IntKind.u64.wrap (IntKind.u64.wrap (IntKind.u32.wrap (a + intOf' (getD' undef (rels rs) 2))) + IntKind.u64.wrap (intOf' (getD' undef (rels rs) 3)))).toNat = true) ∧ rightN (IntKind.u32.wrap (a + intOf' (getD' undef (rels rs) 2))).toNat (IntKind.u64.wrap (IntKind.u64.wrap (IntKind.u32.wrap (a + intOf' (getD' undef (rels rs) 2))) + IntKind.u64.wrap (intOf' (getD' undef (rels rs) 3)))).toNat = true : St }) := by kernel_rfl
theorem rl_d1d (pages : Int) (stack : Int) (types : Int) (nc : Nat) (nr : Nat) (ns : Nat) (data : List UInt8) (a : Int) (b : Int) (c : Int) (d : Int) (e : Int) (f : Int) (g : Int) (h : Int) (rs : List Rl) (x : Int) : evF Try.prog (baseC 3 selK) noLoop 100 10 30 [imgV pages stack types nc nr ns data, layW a b c d e f g h, Value.int IntKind.i64 x] { n := 67, h := [(65, { rw := false, op := some (0, 0), cells := rels rs, it := none : Sy.Blk })], lo := [], esc := 0, T := [(0, false), (1, false), (2, false), (3, true), (4, true), (5, true), (6, true), (7, true), (8, true), (9, true), (10, true), (11, true), (12, true), (13, false), (14, true), (15, false), (16, false), (17, false), (18, false), (19, false), (20, false), (21, false), (22, false), (23, false), (24, false), (25, false), (26, false), (27, false), (28, true), (29, true), (30, true), (31, true), (32, true), (33, true), (34, true), (35, true), (36, true), (37, true), (38, true), (39, true), (40, true), (41, true)], k := 0, O := True : St } = some (Value.bool false, { n := 70, h := [(65, { rw := false, op := some (0, 0), cells := rels rs, it := none : Sy.Blk })], lo := [], esc := 0, T := [], k := 42, O := ((((((((((((((((((((((((((((((((bif hasN (0 + (IntKind.i64.wrap (x - (1 : Int))).toNat * 6 + 0 + 1) (rels rs) && isLikeL [Value.int IntKind.u32 (0 : Int)] (rels rs) (0 + (IntKind.i64.wrap (x - (1 : Int))).toNat * 6 + 0) then ((bif decide ((0 : Int) ≤ IntKind.i64.wrap (x - (1 : Int))) && decide (IntKind.i64.wrap (x - (1 : Int)) < (↑nr : Int)) then ((((((((bif hasN (0 + x.toNat * 6 + 6) (rels rs) && isLikeL [Value.int IntKind.u32 (0 : Int), Value.bool false, Value.int IntKind.u32 (0 : Int), Value.int IntKind.u32 (0 : Int), Value.int IntKind.u16 (0 : Int), Value.int IntKind.u16 (0 : Int)] (rels rs) (0 + x.toNat * 6) then bif decide ((0 : Int) ≤ x) && decide (x < (↑nr : Int)) then True else False else False) ∧ ((intOf' (getD' undef (rels rs) (0 + x.toNat * 6))).tmod (16 : Int) != (0 : Int)) = false) ∧ ((intOf' (getD' undef (rels rs) (0 + x.toNat * 6))).tmod (16 : Int) != (0 : Int)) = false) ∧ ((intOf' (getD' undef (rels rs) (0 + x.toNat * 6))).tmod (16 : Int) != (0 : Int)) = false) ∧ decide (x > (0 : Int)) = true) ∧ decide (x > (0 : Int)) = true) ∧ decide (x > (0 : Int)) = true) ∧ decide (x > (0 : Int)) = true) ∧ decide (x > (0 : Int)) = true else False) ∧ decide (x > (0 : Int)) = true) ∧ decide (x > (0 : Int)) = true else False) ∧ decide (x > (0 : Int)) = true) ∧ decide (x > (0 : Int)) = true) ∧ decide (x > (0 : Int)) = true) ∧ ((intOf' (getD' undef (rels rs) (0 + x.toNat * 6))).tmod (16 : Int) != (0 : Int)) = false) ∧ decide (x > (0 : Int)) = true) ∧ ((intOf' (getD' undef (rels rs) (0 + x.toNat * 6))).tmod (16 : Int) != (0 : Int)) = false) ∧ decide (intOf' (getD' undef (rels rs) (0 + (IntKind.i64.wrap (x - (1 : Int))).toNat * 6 + 0)) ≥ intOf' (getD' undef (rels rs) (0 + x.toNat * 6))) = false) ∧ decide (intOf' (getD' undef (rels rs) (0 + (IntKind.i64.wrap (x - (1 : Int))).toNat * 6 + 0)) ≥ intOf' (getD' undef (rels rs) (0 + x.toNat * 6))) = false) ∧ decide (intOf' (getD' undef (rels rs) (0 + (IntKind.i64.wrap (x - (1 : Int))).toNat * 6 + 0)) ≥ intOf' (getD' undef (rels rs) (0 + x.toNat * 6))) = false) ∧ decide (intOf' (getD' undef (rels rs) (0 + (IntKind.i64.wrap (x - (1 : Int))).toNat * 6 + 0)) ≥ intOf' (getD' undef (rels rs) (0 + x.toNat * 6))) = false) ∧ decide (intOf' (getD' undef (rels rs) (0 + (IntKind.i64.wrap (x - (1 : Int))).toNat * 6 + 0)) ≥ intOf' (getD' undef (rels rs) (0 + x.toNat * 6))) = false) ∧ decide (intOf' (getD' undef (rels rs) (0 + (IntKind.i64.wrap (x - (1 : Int))).toNat * 6 + 0)) ≥ intOf' (getD' undef (rels rs) (0 + x.toNat * 6))) = false) ∧ decide (intOf' (getD' undef (rels rs) (0 + (IntKind.i64.wrap (x - (1 : Int))).toNat * 6 + 0)) ≥ intOf' (getD' undef (rels rs) (0 + x.toNat * 6))) = false) ∧ decide (intOf' (getD' undef (rels rs) (0 + (IntKind.i64.wrap (x - (1 : Int))).toNat * 6 + 0)) ≥ intOf' (getD' undef (rels rs) (0 + x.toNat * 6))) = false) ∧ decide (intOf' (getD' undef (rels rs) (0 + (IntKind.i64.wrap (x - (1 : Int))).toNat * 6 + 0)) ≥ intOf' (getD' undef (rels rs) (0 + x.toNat * 6))) = false) ∧ decide (intOf' (getD' undef (rels rs) (0 + (IntKind.i64.wrap (x - (1 : Int))).toNat * 6 + 0)) ≥ intOf' (getD' undef (rels rs) (0 + x.toNat * 6))) = false) ∧ decide (IntKind.u64.wrap (IntKind.u64.wrap (intOf' (getD' undef (rels rs) (0 + x.toNat * 6))) + (16 : Int)) > IntKind.u64.wrap (↑(lenT data) : Int)) = false) ∧ boolOf' (getD' undef (rels rs) (0 + x.toNat * 6 + 1)) = false) ∧ decide (IntKind.u64.wrap (IntKind.u64.wrap (intOf' (getD' undef (rels rs) (0 + x.toNat * 6 + 1 + 1))) + IntKind.u64.wrap (intOf' (getD' undef (rels rs) (0 + x.toNat * 6 + 1 + 1 + 1)))) > IntKind.u64.wrap (↑(lenT data) : Int)) = true) ∧ decide (IntKind.u64.wrap (IntKind.u64.wrap (intOf' (getD' undef (rels rs) (0 + x.toNat * 6 + 1 + 1))) + IntKind.u64.wrap (intOf' (getD' undef (rels rs) (0 + x.toNat * 6 + 1 + 1 + 1)))) > IntKind.u64.wrap (↑(lenT data) : Int)) = true) ∧ decide (IntKind.u64.wrap (IntKind.u64.wrap (intOf' (getD' undef (rels rs) (0 + x.toNat * 6 + 1 + 1))) + IntKind.u64.wrap (intOf' (getD' undef (rels rs) (0 + x.toNat * 6 + 1 + 1 + 1)))) > IntKind.u64.wrap (↑(lenT data) : Int)) = true) ∧ decide (IntKind.u64.wrap (IntKind.u64.wrap (intOf' (getD' undef (rels rs) (0 + x.toNat * 6 + 1 + 1))) + IntKind.u64.wrap (intOf' (getD' undef (rels rs) (0 + x.toNat * 6 + 1 + 1 + 1)))) > IntKind.u64.wrap (↑(lenT data) : Int)) = true) ∧ decide (IntKind.u64.wrap (IntKind.u64.wrap (intOf' (getD' undef (rels rs) (0 + x.toNat * 6 + 1 + 1))) + IntKind.u64.wrap (intOf' (getD' undef (rels rs) (0 + x.toNat * 6 + 1 + 1 + 1)))) > IntKind.u64.wrap (↑(lenT data) : Int)) = true) ∧ decide (IntKind.u64.wrap (IntKind.u64.wrap (intOf' (getD' undef (rels rs) (0 + x.toNat * 6 + 1 + 1))) + IntKind.u64.wrap (intOf' (getD' undef (rels rs) (0 + x.toNat * 6 + 1 + 1 + 1)))) > IntKind.u64.wrap (↑(lenT data) : Int)) = true) ∧ true = true) ∧ true = true) ∧ true = true) ∧ true = true) ∧ true = true) ∧ true = true) ∧ true = true) ∧ true = true : St }) := by kernel_rfl
theorem rl_e1d (pages : Int) (stack : Int) (types : Int) (nc : Nat) (nr : Nat) (ns : Nat) (data : List UInt8) (a : Int) (b : Int) (c : Int) (d : Int) (e : Int) (f : Int) (g : Int) (h : Int) (rs : List Rl) (x : Int) : evF Try.prog (baseC 3 selK) noLoop 100 10 30 [imgV pages stack types nc nr ns data, layW a b c d e f g h, Value.int IntKind.i64 x] { n := 67, h := [(65, { rw := false, op := some (0, 0), cells := rels rs, it := none : Sy.Blk })], lo := [], esc := 0, T := [(0, false), (1, false), (2, false), (3, true), (4, true), (5, true), (6, true), (7, true), (8, true), (9, true), (10, true), (11, true), (12, true), (13, false), (14, true), (15, false), (16, false), (17, false), (18, false), (19, false), (20, false), (21, false), (22, false), (23, false), (24, false), (25, false), (26, false), (27, false), (28, false), (29, false), (30, false), (31, false), (32, false), (33, false), (34, true), (35, true), (36, true), (37, true), (38, true), (39, true), (40, true), (41, true)], k := 0, O := True : St } = some (Value.bool false, { n := 70, h := [(65, { rw := false, op := some (0, 0), cells := rels rs, it := none : Sy.Blk })], lo := [], esc := 0, T := [], k := 42, O := ((((((((((((((((((((((((((((((((bif hasN (0 + (IntKind.i64.wrap (x - (1 : Int))).toNat * 6 + 0 + 1) (rels rs) && isLikeL [Value.int IntKind.u32 (0 : Int)] (rels rs) (0 + (IntKind.i64.wrap (x - (1 : Int))).toNat * 6 + 0) then ((bif decide ((0 : Int) ≤ IntKind.i64.wrap (x - (1 : Int))) && decide (IntKind.i64.wrap (x - (1 : Int)) < (↑nr : Int)) then ((((((((bif hasN (0 + x.toNat * 6 + 6) (rels rs) && isLikeL [Value.int IntKind.u32 (0 : Int), Value.bool false, Value.int IntKind.u32 (0 : Int), Value.int IntKind.u32 (0 : Int), Value.int IntKind.u16 (0 : Int), Value.int IntKind.u16 (0 : Int)] (rels rs) (0 + x.toNat * 6) then bif decide ((0 : Int) ≤ x) && decide (x < (↑nr : Int)) then True else False else False) ∧ ((intOf' (getD' undef (rels rs) (0 + x.toNat * 6))).tmod (16 : Int) != (0 : Int)) = false) ∧ ((intOf' (getD' undef (rels rs) (0 + x.toNat * 6))).tmod (16 : Int) != (0 : Int)) = false) ∧ ((intOf' (getD' undef (rels rs) (0 + x.toNat * 6))).tmod (16 : Int) != (0 : Int)) = false) ∧ decide (x > (0 : Int)) = true) ∧ decide (x > (0 : Int)) = true) ∧ decide (x > (0 : Int)) = true) ∧ decide (x > (0 : Int)) = true) ∧ decide (x > (0 : Int)) = true else False) ∧ decide (x > (0 : Int)) = true) ∧ decide (x > (0 : Int)) = true else False) ∧ decide (x > (0 : Int)) = true) ∧ decide (x > (0 : Int)) = true) ∧ decide (x > (0 : Int)) = true) ∧ ((intOf' (getD' undef (rels rs) (0 + x.toNat * 6))).tmod (16 : Int) != (0 : Int)) = false) ∧ decide (x > (0 : Int)) = true) ∧ ((intOf' (getD' undef (rels rs) (0 + x.toNat * 6))).tmod (16 : Int) != (0 : Int)) = false) ∧ decide (intOf' (getD' undef (rels rs) (0 + (IntKind.i64.wrap (x - (1 : Int))).toNat * 6 + 0)) ≥ intOf' (getD' undef (rels rs) (0 + x.toNat * 6))) = false) ∧ decide (intOf' (getD' undef (rels rs) (0 + (IntKind.i64.wrap (x - (1 : Int))).toNat * 6 + 0)) ≥ intOf' (getD' undef (rels rs) (0 + x.toNat * 6))) = false) ∧ decide (intOf' (getD' undef (rels rs) (0 + (IntKind.i64.wrap (x - (1 : Int))).toNat * 6 + 0)) ≥ intOf' (getD' undef (rels rs) (0 + x.toNat * 6))) = false) ∧ decide (intOf' (getD' undef (rels rs) (0 + (IntKind.i64.wrap (x - (1 : Int))).toNat * 6 + 0)) ≥ intOf' (getD' undef (rels rs) (0 + x.toNat * 6))) = false) ∧ decide (intOf' (getD' undef (rels rs) (0 + (IntKind.i64.wrap (x - (1 : Int))).toNat * 6 + 0)) ≥ intOf' (getD' undef (rels rs) (0 + x.toNat * 6))) = false) ∧ decide (intOf' (getD' undef (rels rs) (0 + (IntKind.i64.wrap (x - (1 : Int))).toNat * 6 + 0)) ≥ intOf' (getD' undef (rels rs) (0 + x.toNat * 6))) = false) ∧ decide (intOf' (getD' undef (rels rs) (0 + (IntKind.i64.wrap (x - (1 : Int))).toNat * 6 + 0)) ≥ intOf' (getD' undef (rels rs) (0 + x.toNat * 6))) = false) ∧ decide (intOf' (getD' undef (rels rs) (0 + (IntKind.i64.wrap (x - (1 : Int))).toNat * 6 + 0)) ≥ intOf' (getD' undef (rels rs) (0 + x.toNat * 6))) = false) ∧ decide (intOf' (getD' undef (rels rs) (0 + (IntKind.i64.wrap (x - (1 : Int))).toNat * 6 + 0)) ≥ intOf' (getD' undef (rels rs) (0 + x.toNat * 6))) = false) ∧ decide (intOf' (getD' undef (rels rs) (0 + (IntKind.i64.wrap (x - (1 : Int))).toNat * 6 + 0)) ≥ intOf' (getD' undef (rels rs) (0 + x.toNat * 6))) = false) ∧ decide (IntKind.u64.wrap (IntKind.u64.wrap (intOf' (getD' undef (rels rs) (0 + x.toNat * 6))) + (16 : Int)) > IntKind.u64.wrap (↑(lenT data) : Int)) = false) ∧ boolOf' (getD' undef (rels rs) (0 + x.toNat * 6 + 1)) = false) ∧ decide (IntKind.u64.wrap (IntKind.u64.wrap (intOf' (getD' undef (rels rs) (0 + x.toNat * 6 + 1 + 1))) + IntKind.u64.wrap (intOf' (getD' undef (rels rs) (0 + x.toNat * 6 + 1 + 1 + 1)))) > IntKind.u64.wrap (↑(lenT data) : Int)) = false) ∧ decide (IntKind.u64.wrap (IntKind.u64.wrap (intOf' (getD' undef (rels rs) (0 + x.toNat * 6 + 1 + 1))) + IntKind.u64.wrap (intOf' (getD' undef (rels rs) (0 + x.toNat * 6 + 1 + 1 + 1)))) > IntKind.u64.wrap (↑(lenT data) : Int)) = false) ∧ decide (IntKind.u64.wrap (IntKind.u64.wrap (intOf' (getD' undef (rels rs) (0 + x.toNat * 6 + 1 + 1))) + IntKind.u64.wrap (intOf' (getD' undef (rels rs) (0 + x.toNat * 6 + 1 + 1 + 1)))) > IntKind.u64.wrap (↑(lenT data) : Int)) = false) ∧ decide (IntKind.u64.wrap (IntKind.u64.wrap (intOf' (getD' undef (rels rs) (0 + x.toNat * 6 + 1 + 1))) + IntKind.u64.wrap (intOf' (getD' undef (rels rs) (0 + x.toNat * 6 + 1 + 1 + 1)))) > IntKind.u64.wrap (↑(lenT data) : Int)) = false) ∧ decide (IntKind.u64.wrap (IntKind.u64.wrap (intOf' (getD' undef (rels rs) (0 + x.toNat * 6 + 1 + 1))) + IntKind.u64.wrap (intOf' (getD' undef (rels rs) (0 + x.toNat * 6 + 1 + 1 + 1)))) > IntKind.u64.wrap (↑(lenT data) : Int)) = false) ∧ decide (IntKind.u64.wrap (IntKind.u64.wrap (intOf' (getD' undef (rels rs) (0 + x.toNat * 6 + 1 + 1))) + IntKind.u64.wrap (intOf' (getD' undef (rels rs) (0 + x.toNat * 6 + 1 + 1 + 1)))) > IntKind.u64.wrap (↑(lenT data) : Int)) = false) ∧ (bits BinOp.andNot IntKind.u16 (intOf' (getD' undef (rels rs) (0 + x.toNat * 6 + 1 + 1 + 1 + 1))) (155 : Int) != (0 : Int)) = true) ∧ (bits BinOp.andNot IntKind.u16 (intOf' (getD' undef (rels rs) (0 + x.toNat * 6 + 1 + 1 + 1 + 1))) (155 : Int) != (0 : Int)) = true) ∧ (bits BinOp.andNot IntKind.u16 (intOf' (getD' undef (rels rs) (0 + x.toNat * 6 + 1 + 1 + 1 + 1))) (155 : Int) != (0 : Int)) = true) ∧ (bits BinOp.andNot IntKind.u16 (intOf' (getD' undef (rels rs) (0 + x.toNat * 6 + 1 + 1 + 1 + 1))) (155 : Int) != (0 : Int)) = true) ∧ (bits BinOp.andNot IntKind.u16 (intOf' (getD' undef (rels rs) (0 + x.toNat * 6 + 1 + 1 + 1 + 1))) (155 : Int) != (0 : Int)) = true) ∧ (bits BinOp.andNot IntKind.u16 (intOf' (getD' undef (rels rs) (0 + x.toNat * 6 + 1 + 1 + 1 + 1))) (155 : Int) != (0 : Int)) = true) ∧ (bits BinOp.andNot IntKind.u16 (intOf' (getD' undef (rels rs) (0 + x.toNat * 6 + 1 + 1 + 1 + 1))) (155 : Int) != (0 : Int)) = true) ∧ true = true : St }) := by kernel_rfl
theorem rl_f1d (pages : Int) (stack : Int) (types : Int) (nc : Nat) (nr : Nat) (ns : Nat) (data : List UInt8) (a : Int) (b : Int) (c : Int) (d : Int) (e : Int) (f : Int) (g : Int) (h : Int) (rs : List Rl) (x : Int) : evF Try.prog (baseC 3 selK) noLoop 100 10 30 [imgV pages stack types nc nr ns data, layW a b c d e f g h, Value.int IntKind.i64 x] { n := 67, h := [(65, { rw := false, op := some (0, 0), cells := rels rs, it := none : Sy.Blk })], lo := [], esc := 0, T := [(0, false), (1, false), (2, false), (3, true), (4, true), (5, true), (6, true), (7, true), (8, true), (9, true), (10, true), (11, true), (12, true), (13, false), (14, true), (15, false), (16, false), (17, false), (18, false), (19, false), (20, false), (21, false), (22, false), (23, false), (24, false), (25, false), (26, false), (27, false), (28, false), (29, false), (30, false), (31, false), (32, false), (33, false), (34, false), (35, false), (36, false), (37, false), (38, false), (39, false), (40, false), (41, true)], k := 0, O := True : St } = some (Value.bool false, { n := 70, h := [(65, { rw := false, op := some (0, 0), cells := rels rs, it := none : Sy.Blk })], lo := [], esc := 0, T := [], k := 42, O := ((((((((((((((((((((((((((((((((bif hasN (0 + (IntKind.i64.wrap (x - (1 : Int))).toNat * 6 + 0 + 1) (rels rs) && isLikeL [Value.int IntKind.u32 (0 : Int)] (rels rs) (0 + (IntKind.i64.wrap (x - (1 : Int))).toNat * 6 + 0) then ((bif decide ((0 : Int) ≤ IntKind.i64.wrap (x - (1 : Int))) && decide (IntKind.i64.wrap (x - (1 : Int)) < (↑nr : Int)) then ((((((((bif hasN (0 + x.toNat * 6 + 6) (rels rs) && isLikeL [Value.int IntKind.u32 (0 : Int), Value.bool false, Value.int IntKind.u32 (0 : Int), Value.int IntKind.u32 (0 : Int), Value.int IntKind.u16 (0 : Int), Value.int IntKind.u16 (0 : Int)] (rels rs) (0 + x.toNat * 6) then bif decide ((0 : Int) ≤ x) && decide (x < (↑nr : Int)) then True else False else False) ∧ ((intOf' (getD' undef (rels rs) (0 + x.toNat * 6))).tmod (16 : Int) != (0 : Int)) = false) ∧ ((intOf' (getD' undef (rels rs) (0 + x.toNat * 6))).tmod (16 : Int) != (0 : Int)) = false) ∧ ((intOf' (getD' undef (rels rs) (0 + x.toNat * 6))).tmod (16 : Int) != (0 : Int)) = false) ∧ decide (x > (0 : Int)) = true) ∧ decide (x > (0 : Int)) = true) ∧ decide (x > (0 : Int)) = true) ∧ decide (x > (0 : Int)) = true) ∧ decide (x > (0 : Int)) = true else False) ∧ decide (x > (0 : Int)) = true) ∧ decide (x > (0 : Int)) = true else False) ∧ decide (x > (0 : Int)) = true) ∧ decide (x > (0 : Int)) = true) ∧ decide (x > (0 : Int)) = true) ∧ ((intOf' (getD' undef (rels rs) (0 + x.toNat * 6))).tmod (16 : Int) != (0 : Int)) = false) ∧ decide (x > (0 : Int)) = true) ∧ ((intOf' (getD' undef (rels rs) (0 + x.toNat * 6))).tmod (16 : Int) != (0 : Int)) = false) ∧ decide (intOf' (getD' undef (rels rs) (0 + (IntKind.i64.wrap (x - (1 : Int))).toNat * 6 + 0)) ≥ intOf' (getD' undef (rels rs) (0 + x.toNat * 6))) = false) ∧ decide (intOf' (getD' undef (rels rs) (0 + (IntKind.i64.wrap (x - (1 : Int))).toNat * 6 + 0)) ≥ intOf' (getD' undef (rels rs) (0 + x.toNat * 6))) = false) ∧ decide (intOf' (getD' undef (rels rs) (0 + (IntKind.i64.wrap (x - (1 : Int))).toNat * 6 + 0)) ≥ intOf' (getD' undef (rels rs) (0 + x.toNat * 6))) = false) ∧ decide (intOf' (getD' undef (rels rs) (0 + (IntKind.i64.wrap (x - (1 : Int))).toNat * 6 + 0)) ≥ intOf' (getD' undef (rels rs) (0 + x.toNat * 6))) = false) ∧ decide (intOf' (getD' undef (rels rs) (0 + (IntKind.i64.wrap (x - (1 : Int))).toNat * 6 + 0)) ≥ intOf' (getD' undef (rels rs) (0 + x.toNat * 6))) = false) ∧ decide (intOf' (getD' undef (rels rs) (0 + (IntKind.i64.wrap (x - (1 : Int))).toNat * 6 + 0)) ≥ intOf' (getD' undef (rels rs) (0 + x.toNat * 6))) = false) ∧ decide (intOf' (getD' undef (rels rs) (0 + (IntKind.i64.wrap (x - (1 : Int))).toNat * 6 + 0)) ≥ intOf' (getD' undef (rels rs) (0 + x.toNat * 6))) = false) ∧ decide (intOf' (getD' undef (rels rs) (0 + (IntKind.i64.wrap (x - (1 : Int))).toNat * 6 + 0)) ≥ intOf' (getD' undef (rels rs) (0 + x.toNat * 6))) = false) ∧ decide (intOf' (getD' undef (rels rs) (0 + (IntKind.i64.wrap (x - (1 : Int))).toNat * 6 + 0)) ≥ intOf' (getD' undef (rels rs) (0 + x.toNat * 6))) = false) ∧ decide (intOf' (getD' undef (rels rs) (0 + (IntKind.i64.wrap (x - (1 : Int))).toNat * 6 + 0)) ≥ intOf' (getD' undef (rels rs) (0 + x.toNat * 6))) = false) ∧ decide (IntKind.u64.wrap (IntKind.u64.wrap (intOf' (getD' undef (rels rs) (0 + x.toNat * 6))) + (16 : Int)) > IntKind.u64.wrap (↑(lenT data) : Int)) = false) ∧ boolOf' (getD' undef (rels rs) (0 + x.toNat * 6 + 1)) = false) ∧ decide (IntKind.u64.wrap (IntKind.u64.wrap (intOf' (getD' undef (rels rs) (0 + x.toNat * 6 + 1 + 1))) + IntKind.u64.wrap (intOf' (getD' undef (rels rs) (0 + x.toNat * 6 + 1 + 1 + 1)))) > IntKind.u64.wrap (↑(lenT data) : Int)) = false) ∧ decide (IntKind.u64.wrap (IntKind.u64.wrap (intOf' (getD' undef (rels rs) (0 + x.toNat * 6 + 1 + 1))) + IntKind.u64.wrap (intOf' (getD' undef (rels rs) (0 + x.toNat * 6 + 1 + 1 + 1)))) > IntKind.u64.wrap (↑(lenT data) : Int)) = false) ∧ decide (IntKind.u64.wrap (IntKind.u64.wrap (intOf' (getD' undef (rels rs) (0 + x.toNat * 6 + 1 + 1))) + IntKind.u64.wrap (intOf' (getD' undef (rels rs) (0 + x.toNat * 6 + 1 + 1 + 1)))) > IntKind.u64.wrap (↑(lenT data) : Int)) = false) ∧ decide (IntKind.u64.wrap (IntKind.u64.wrap (intOf' (getD' undef (rels rs) (0 + x.toNat * 6 + 1 + 1))) + IntKind.u64.wrap (intOf' (getD' undef (rels rs) (0 + x.toNat * 6 + 1 + 1 + 1)))) > IntKind.u64.wrap (↑(lenT data) : Int)) = false) ∧ decide (IntKind.u64.wrap (IntKind.u64.wrap (intOf' (getD' undef (rels rs) (0 + x.toNat * 6 + 1 + 1))) + IntKind.u64.wrap (intOf' (getD' undef (rels rs) (0 + x.toNat * 6 + 1 + 1 + 1)))) > IntKind.u64.wrap (↑(lenT data) : Int)) = false) ∧ decide (IntKind.u64.wrap (IntKind.u64.wrap (intOf' (getD' undef (rels rs) (0 + x.toNat * 6 + 1 + 1))) + IntKind.u64.wrap (intOf' (getD' undef (rels rs) (0 + x.toNat * 6 + 1 + 1 + 1)))) > IntKind.u64.wrap (↑(lenT data) : Int)) = false) ∧ (bits BinOp.andNot IntKind.u16 (intOf' (getD' undef (rels rs) (0 + x.toNat * 6 + 1 + 1 + 1 + 1))) (155 : Int) != (0 : Int)) = false) ∧ (bits BinOp.andNot IntKind.u16 (intOf' (getD' undef (rels rs) (0 + x.toNat * 6 + 1 + 1 + 1 + 1))) (155 : Int) != (0 : Int)) = false) ∧ (bits BinOp.andNot IntKind.u16 (intOf' (getD' undef (rels rs) (0 + x.toNat * 6 + 1 + 1 + 1 + 1))) (155 : Int) != (0 : Int)) = false) ∧ (bits BinOp.andNot IntKind.u16 (intOf' (getD' undef (rels rs) (0 + x.toNat * 6 + 1 + 1 + 1 + 1))) (155 : Int) != (0 : Int)) = false) ∧ (bits BinOp.andNot IntKind.u16 (intOf' (getD' undef (rels rs) (0 + x.toNat * 6 + 1 + 1 + 1 + 1))) (155 : Int) != (0 : Int)) = false) ∧ (bits BinOp.andNot IntKind.u16 (intOf' (getD' undef (rels rs) (0 + x.toNat * 6 + 1 + 1 + 1 + 1))) (155 : Int) != (0 : Int)) = false) ∧ (bits BinOp.andNot IntKind.u16 (intOf' (getD' undef (rels rs) (0 + x.toNat * 6 + 1 + 1 + 1 + 1))) (155 : Int) != (0 : Int)) = false) ∧ decide (IntKind.i64.wrap (intOf' (getD' undef (rels rs) (0 + x.toNat * 6 + 1 + 1 + 1 + 1 + 1))) > types) = true : St }) := by kernel_rfl
theorem rl_g1d (pages : Int) (stack : Int) (types : Int) (nc : Nat) (nr : Nat) (ns : Nat) (data : List UInt8) (a : Int) (b : Int) (c : Int) (d : Int) (e : Int) (f : Int) (g : Int) (h : Int) (rs : List Rl) (x : Int) : evF Try.prog (baseC 3 selK) noLoop 100 10 30 [imgV pages stack types nc nr ns data, layW a b c d e f g h, Value.int IntKind.i64 x] { n := 67, h := [(65, { rw := false, op := some (0, 0), cells := rels rs, it := none : Sy.Blk })], lo := [], esc := 0, T := [(0, false), (1, false), (2, false), (3, true), (4, true), (5, true), (6, true), (7, true), (8, true), (9, true), (10, true), (11, true), (12, true), (13, false), (14, true), (15, false), (16, false), (17, false), (18, false), (19, false), (20, false), (21, false), (22, false), (23, false), (24, false), (25, false), (26, false), (27, false), (28, false), (29, false), (30, false), (31, false), (32, false), (33, false), (34, false), (35, false), (36, false), (37, false), (38, false), (39, false), (40, false), (41, false), (42, true), (43, true)], k := 0, O := True : St } = some (Value.bool (encX (IntKind.u32.wrap (c + intOf' (getD' undef (rels rs) (0 + x.toNat * 6 + 1 + 1)))).toNat (IntKind.u64.wrap (IntKind.u64.wrap (IntKind.u32.wrap (c + intOf' (getD' undef (rels rs) (0 + x.toNat * 6 + 1 + 1)))) + IntKind.u64.wrap (intOf' (getD' undef (rels rs) (0 + x.toNat * 6 + 1 + 1 + 1))))).toNat), { n := 70, h := [(65, { rw := false, op := some (0, 0), cells := rels rs, it := none : Sy.Blk })], lo := [], esc := 0, T := [], k := 44, O := (((((((((((((((((((((((((((((((((((bif hasN (0 + (IntKind.i64.wrap (x - (1 : Int))).toNat * 6 + 0 + 1) (rels rs) && isLikeL [Value.int IntKind.u32 (0 : Int)] (rels rs) (0 + (IntKind.i64.wrap (x - (1 : Int))).toNat * 6 + 0) then ((bif decide ((0 : Int) ≤ IntKind.i64.wrap (x - (1 : Int))) && decide (IntKind.i64.wrap (x - (1 : Int)) < (↑nr : Int)) then ((((((((bif hasN (0 + x.toNat * 6 + 6) (rels rs) && isLikeL [Value.int IntKind.u32 (0 : Int), Value.bool false, Value.int IntKind.u32 (0 : Int), Value.int IntKind.u32 (0 : Int), Value.int IntKind.u16 (0 : Int), Value.int IntKind.u16 (0 : Int)] (rels rs) (0 + x.toNat * 6) then bif decide ((0 : Int) ≤ x) && decide (x < (↑nr : Int)) then True else False else False) ∧ ((intOf' (getD' undef (rels rs) (0 + x.toNat * 6))).tmod (16 : Int) != (0 : Int)) = false) ∧ ((intOf' (getD' undef (rels rs) (0 + x.toNat * 6))).tmod (16 : Int) != (0 : Int)) = false) ∧ ((intOf' (getD' undef (rels rs) (0 + x.toNat * 6))).tmod (16 : Int) != (0 : Int)) = false) ∧ decide (x > (0 : Int)) = true) ∧ decide (x > (0 : Int)) = true) ∧ decide (x > (0 : Int)) = true) ∧ decide (x > (0 : Int)) = true) ∧ decide (x > (0 : Int)) = true else False) ∧ decide (x > (0 : Int)) = true) ∧ decide (x > (0 : Int)) = true else False) ∧ decide (x > (0 : Int)) = true) ∧ decide (x > (0 : Int)) = true) ∧ decide (x > (0 : Int)) = true) ∧ ((intOf' (getD' undef (rels rs) (0 + x.toNat * 6))).tmod (16 : Int) != (0 : Int)) = false) ∧ decide (x > (0 : Int)) = true) ∧ ((intOf' (getD' undef (rels rs) (0 + x.toNat * 6))).tmod (16 : Int) != (0 : Int)) = false) ∧ decide (intOf' (getD' undef (rels rs) (0 + (IntKind.i64.wrap (x - (1 : Int))).toNat * 6 + 0)) ≥ intOf' (getD' undef (rels rs) (0 + x.toNat * 6))) = false) ∧ decide (intOf' (getD' undef (rels rs) (0 + (IntKind.i64.wrap (x - (1 : Int))).toNat * 6 + 0)) ≥ intOf' (getD' undef (rels rs) (0 + x.toNat * 6))) = false) ∧ decide (intOf' (getD' undef (rels rs) (0 + (IntKind.i64.wrap (x - (1 : Int))).toNat * 6 + 0)) ≥ intOf' (getD' undef (rels rs) (0 + x.toNat * 6))) = false) ∧ decide (intOf' (getD' undef (rels rs) (0 + (IntKind.i64.wrap (x - (1 : Int))).toNat * 6 + 0)) ≥ intOf' (getD' undef (rels rs) (0 + x.toNat * 6))) = false) ∧ decide (intOf' (getD' undef (rels rs) (0 + (IntKind.i64.wrap (x - (1 : Int))).toNat * 6 + 0)) ≥ intOf' (getD' undef (rels rs) (0 + x.toNat * 6))) = false) ∧ decide (intOf' (getD' undef (rels rs) (0 + (IntKind.i64.wrap (x - (1 : Int))).toNat * 6 + 0)) ≥ intOf' (getD' undef (rels rs) (0 + x.toNat * 6))) = false) ∧ decide (intOf' (getD' undef (rels rs) (0 + (IntKind.i64.wrap (x - (1 : Int))).toNat * 6 + 0)) ≥ intOf' (getD' undef (rels rs) (0 + x.toNat * 6))) = false) ∧ decide (intOf' (getD' undef (rels rs) (0 + (IntKind.i64.wrap (x - (1 : Int))).toNat * 6 + 0)) ≥ intOf' (getD' undef (rels rs) (0 + x.toNat * 6))) = false) ∧ decide (intOf' (getD' undef (rels rs) (0 + (IntKind.i64.wrap (x - (1 : Int))).toNat * 6 + 0)) ≥ intOf' (getD' undef (rels rs) (0 + x.toNat * 6))) = false) ∧ decide (intOf' (getD' undef (rels rs) (0 + (IntKind.i64.wrap (x - (1 : Int))).toNat * 6 + 0)) ≥ intOf' (getD' undef (rels rs) (0 + x.toNat * 6))) = false) ∧ decide (IntKind.u64.wrap (IntKind.u64.wrap (intOf' (getD' undef (rels rs) (0 + x.toNat * 6))) + (16 : Int)) > IntKind.u64.wrap (↑(lenT data) : Int)) = false) ∧ boolOf' (getD' undef (rels rs) (0 + x.toNat * 6 + 1)) = false) ∧ decide (IntKind.u64.wrap (IntKind.u64.wrap (intOf' (getD' undef (rels rs) (0 + x.toNat * 6 + 1 + 1))) + IntKind.u64.wrap (intOf' (getD' undef (rels rs) (0 + x.toNat * 6 + 1 + 1 + 1)))) > IntKind.u64.wrap (↑(lenT data) : Int)) = false) ∧ decide (IntKind.u64.wrap (IntKind.u64.wrap (intOf' (getD' undef (rels rs) (0 + x.toNat * 6 + 1 + 1))) + IntKind.u64.wrap (intOf' (getD' undef (rels rs) (0 + x.toNat * 6 + 1 + 1 + 1)))) > IntKind.u64.wrap (↑(lenT data) : Int)) = false) ∧ decide (IntKind.u64.wrap (IntKind.u64.wrap (intOf' (getD' undef (rels rs) (0 + x.toNat * 6 + 1 + 1))) + IntKind.u64.wrap (intOf' (getD' undef (rels rs) (0 + x.toNat * 6 + 1 + 1 + 1)))) > IntKind.u64.wrap (↑(lenT data) : Int)) = false) ∧ decide (IntKind.u64.wrap (IntKind.u64.wrap (intOf' (getD' undef (rels rs) (0 + x.toNat * 6 + 1 + 1))) + IntKind.u64.wrap (intOf' (getD' undef (rels rs) (0 + x.toNat * 6 + 1 + 1 + 1)))) > IntKind.u64.wrap (↑(lenT data) : Int)) = false) ∧ decide (IntKind.u64.wrap (IntKind.u64.wrap (intOf' (getD' undef (rels rs) (0 + x.toNat * 6 + 1 + 1))) + IntKind.u64.wrap (intOf' (getD' undef (rels rs) (0 + x.toNat * 6 + 1 + 1 + 1)))) > IntKind.u64.wrap (↑(lenT data) : Int)) = false) ∧ decide (IntKind.u64.wrap (IntKind.u64.wrap (intOf' (getD' undef (rels rs) (0 + x.toNat * 6 + 1 + 1))) + IntKind.u64.wrap (intOf' (getD' undef (rels rs) (0 + x.toNat * 6 + 1 + 1 + 1)))) > IntKind.u64.wrap (↑(lenT data) : Int)) = false) ∧ (bits BinOp.andNot IntKind.u16 (intOf' (getD' undef (rels rs) (0 + x.toNat * 6 + 1 + 1 + 1 + 1))) (155 : Int) != (0 : Int)) = false) ∧ (bits BinOp.andNot IntKind.u16 (intOf' (getD' undef (rels rs) (0 + x.toNat * 6 + 1 + 1 + 1 + 1))) (155 : Int) != (0 : Int)) = false) ∧ (bits BinOp.andNot IntKind.u16 (intOf' (getD' undef (rels rs) (0 + x.toNat * 6 + 1 + 1 + 1 + 1))) (155 : Int) != (0 : Int)) = false) ∧ (bits BinOp.andNot IntKind.u16 (intOf' (getD' undef (rels rs) (0 + x.toNat * 6 + 1 + 1 + 1 + 1))) (155 : Int) != (0 : Int)) = false) ∧ (bits BinOp.andNot IntKind.u16 (intOf' (getD' undef (rels rs) (0 + x.toNat * 6 + 1 + 1 + 1 + 1))) (155 : Int) != (0 : Int)) = false) ∧ (bits BinOp.andNot IntKind.u16 (intOf' (getD' undef (rels rs) (0 + x.toNat * 6 + 1 + 1 + 1 + 1))) (155 : Int) != (0 : Int)) = false) ∧ (bits BinOp.andNot IntKind.u16 (intOf' (getD' undef (rels rs) (0 + x.toNat * 6 + 1 + 1 + 1 + 1))) (155 : Int) != (0 : Int)) = false) ∧ decide (IntKind.i64.wrap (intOf' (getD' undef (rels rs) (0 + x.toNat * 6 + 1 + 1 + 1 + 1 + 1))) > types) = false) ∧ (((0 : Int) ≤ IntKind.u32.wrap (c + intOf' (getD' undef (rels rs) (0 + x.toNat * 6 + 1 + 1))) ∧ IntKind.u32.wrap (c + intOf' (getD' undef (rels rs) (0 + x.toNat * 6 + 1 + 1))) < (4294967296 : Int)) ∧ (0 : Int) ≤ IntKind.u64.wrap (IntKind.u64.wrap (IntKind.u32.wrap (c + intOf' (getD' undef (rels rs) (0 + x.toNat * 6 + 1 + 1)))) + IntKind.u64.wrap (intOf' (getD' undef (rels rs) (0 + x.toNat * 6 + 1 + 1 + 1)))) ∧ IntKind.u64.wrap (IntKind.u64.wrap (IntKind.u32.wrap (c + intOf' (getD' undef (rels rs) (0 + x.toNat * 6 + 1 + 1)))) + IntKind.u64.wrap (intOf' (getD' undef (rels rs) (0 + x.toNat * 6 + 1 + 1 + 1)))) < (18446744073709551616 : Int)) ∧ (Value.int IntKind.u32 (IntKind.u32.wrap (c + intOf' (getD' undef (rels rs) (0 + x.toNat * 6 + 1 + 1)))) = Value.int IntKind.u32 (IntKind.u32.wrap (c + intOf' (getD' undef (rels rs) (0 + x.toNat * 6 + 1 + 1)))) ∧ Value.int IntKind.u64 (IntKind.u64.wrap (IntKind.u64.wrap (IntKind.u32.wrap (c + intOf' (getD' undef (rels rs) (0 + x.toNat * 6 + 1 + 1)))) + IntKind.u64.wrap (intOf' (getD' undef (rels rs) (0 + x.toNat * 6 + 1 + 1 + 1))))) = Value.int IntKind.u64 (IntKind.u64.wrap (IntKind.u64.wrap (IntKind.u32.wrap (c + intOf' (getD' undef (rels rs) (0 + x.toNat * 6 + 1 + 1)))) + IntKind.u64.wrap (intOf' (getD' undef (rels rs) (0 + x.toNat * 6 + 1 + 1 + 1))))) ∧ True) ∧ True ∧ True) ∧ rightN (IntKind.u32.wrap (c + intOf' (getD' undef (rels rs) (0 + x.toNat * 6 + 1 + 1)))).toNat (IntKind.u64.wrap (IntKind.u64.wrap (IntKind.u32.wrap (c + intOf' (getD' undef (rels rs) (0 + x.toNat * 6 + 1 + 1)))) + IntKind.u64.wrap (intOf' (getD' undef (rels rs) (0 + x.toNat * 6 + 1 + 1 + 1))))).toNat = true) ∧ rightN (IntKind.u32.wrap (c + intOf' (getD' undef (rels rs) (0 + x.toNat * 6 + 1 + 1)))).toNat (IntKind.u64.wrap (IntKind.u64.wrap (IntKind.u32.wrap (c + intOf' (getD' undef (rels rs) (0 + x.toNat * 6 + 1 + 1)))) + IntKind.u64.wrap (intOf' (getD' undef (rels rs) (0 + x.toNat * 6 + 1 + 1 + 1))))).toNat = true : St }) := by kernel_rfl
theorem rl_d1c (pages : Int) (stack : Int) (types : Int) (nc : Nat) (nr : Nat) (ns : Nat) (data : List UInt8) (a : Int) (b : Int) (c : Int) (d : Int) (e : Int) (f : Int) (g : Int) (h : Int) (rs : List Rl) (x : Int) : evF Try.prog (baseC 3 selK) noLoop 100 10 30 [imgV pages stack types nc nr ns data, layW a b c d e f g h, Value.int IntKind.i64 x] { n := 67, h := [(65, { rw := false, op := some (0, 0), cells := rels rs, it := none : Sy.Blk })], lo := [], esc := 0, T := [(0, false), (1, false), (2, false), (3, true), (4, true), (5, true), (6, true), (7, true), (8, true), (9, true), (10, true), (11, true), (12, true), (13, false), (14, true), (15, false), (16, false), (17, false), (18, false), (19, false), (20, false), (21, false), (22, false), (23, false), (24, false), (25, false), (26, false), (27, true), (28, true), (29, true), (30, true), (31, true), (32, true), (33, true), (34, true), (35, true), (36, true), (37, true), (38, true), (39, true), (40, true), (41, true)], k := 0, O := True : St } = some (Value.bool false, { n := 70, h := [(65, { rw := false, op := some (0, 0), cells := rels rs, it := none : Sy.Blk })], lo := [], esc := 0, T := [], k := 42, O := ((((((((((((((((((((((((((((((((bif hasN (0 + (IntKind.i64.wrap (x - (1 : Int))).toNat * 6 + 0 + 1) (rels rs) && isLikeL [Value.int IntKind.u32 (0 : Int)] (rels rs) (0 + (IntKind.i64.wrap (x - (1 : Int))).toNat * 6 + 0) then ((bif decide ((0 : Int) ≤ IntKind.i64.wrap (x - (1 : Int))) && decide (IntKind.i64.wrap (x - (1 : Int)) < (↑nr : Int)) then ((((((((bif hasN (0 + x.toNat * 6 + 6) (rels rs) && isLikeL [Value.int IntKind.u32 (0 : Int), Value.bool false, Value.int IntKind.u32 (0 : Int), Value.int IntKind.u32 (0 : Int), Value.int IntKind.u16 (0 : Int), Value.int IntKind.u16 (0 : Int)] (rels rs) (0 + x.toNat * 6) then bif decide ((0 : Int) ≤ x) && decide (x < (↑nr : Int)) then True else False else False) ∧ ((intOf' (getD' undef (rels rs) (0 + x.toNat * 6))).tmod (16 : Int) != (0 : Int)) = false) ∧ ((intOf' (getD' undef (rels rs) (0 + x.toNat * 6))).tmod (16 : Int) != (0 : Int)) = false) ∧ ((intOf' (getD' undef (rels rs) (0 + x.toNat * 6))).tmod (16 : Int) != (0 : Int)) = false) ∧ decide (x > (0 : Int)) = true) ∧ decide (x > (0 : Int)) = true) ∧ decide (x > (0 : Int)) = true) ∧ decide (x > (0 : Int)) = true) ∧ decide (x > (0 : Int)) = true else False) ∧ decide (x > (0 : Int)) = true) ∧ decide (x > (0 : Int)) = true else False) ∧ decide (x > (0 : Int)) = true) ∧ decide (x > (0 : Int)) = true) ∧ decide (x > (0 : Int)) = true) ∧ ((intOf' (getD' undef (rels rs) (0 + x.toNat * 6))).tmod (16 : Int) != (0 : Int)) = false) ∧ decide (x > (0 : Int)) = true) ∧ ((intOf' (getD' undef (rels rs) (0 + x.toNat * 6))).tmod (16 : Int) != (0 : Int)) = false) ∧ decide (intOf' (getD' undef (rels rs) (0 + (IntKind.i64.wrap (x - (1 : Int))).toNat * 6 + 0)) ≥ intOf' (getD' undef (rels rs) (0 + x.toNat * 6))) = false) ∧ decide (intOf' (getD' undef (rels rs) (0 + (IntKind.i64.wrap (x - (1 : Int))).toNat * 6 + 0)) ≥ intOf' (getD' undef (rels rs) (0 + x.toNat * 6))) = false) ∧ decide (intOf' (getD' undef (rels rs) (0 + (IntKind.i64.wrap (x - (1 : Int))).toNat * 6 + 0)) ≥ intOf' (getD' undef (rels rs) (0 + x.toNat * 6))) = false) ∧ decide (intOf' (getD' undef (rels rs) (0 + (IntKind.i64.wrap (x - (1 : Int))).toNat * 6 + 0)) ≥ intOf' (getD' undef (rels rs) (0 + x.toNat * 6))) = false) ∧ decide (intOf' (getD' undef (rels rs) (0 + (IntKind.i64.wrap (x - (1 : Int))).toNat * 6 + 0)) ≥ intOf' (getD' undef (rels rs) (0 + x.toNat * 6))) = false) ∧ decide (intOf' (getD' undef (rels rs) (0 + (IntKind.i64.wrap (x - (1 : Int))).toNat * 6 + 0)) ≥ intOf' (getD' undef (rels rs) (0 + x.toNat * 6))) = false) ∧ decide (intOf' (getD' undef (rels rs) (0 + (IntKind.i64.wrap (x - (1 : Int))).toNat * 6 + 0)) ≥ intOf' (getD' undef (rels rs) (0 + x.toNat * 6))) = false) ∧ decide (intOf' (getD' undef (rels rs) (0 + (IntKind.i64.wrap (x - (1 : Int))).toNat * 6 + 0)) ≥ intOf' (getD' undef (rels rs) (0 + x.toNat * 6))) = false) ∧ decide (intOf' (getD' undef (rels rs) (0 + (IntKind.i64.wrap (x - (1 : Int))).toNat * 6 + 0)) ≥ intOf' (getD' undef (rels rs) (0 + x.toNat * 6))) = false) ∧ decide (intOf' (getD' undef (rels rs) (0 + (IntKind.i64.wrap (x - (1 : Int))).toNat * 6 + 0)) ≥ intOf' (getD' undef (rels rs) (0 + x.toNat * 6))) = false) ∧ decide (IntKind.u64.wrap (IntKind.u64.wrap (intOf' (getD' undef (rels rs) (0 + x.toNat * 6))) + (16 : Int)) > IntKind.u64.wrap (↑(lenT data) : Int)) = false) ∧ boolOf' (getD' undef (rels rs) (0 + x.toNat * 6 + 1)) = true) ∧ decide (IntKind.u64.wrap (IntKind.u64.wrap (intOf' (getD' undef (rels rs) (0 + x.toNat * 6 + 1 + 1))) + IntKind.u64.wrap (intOf' (getD' undef (rels rs) (0 + x.toNat * 6 + 1 + 1 + 1)))) > IntKind.u64.wrap ((4 : Int) * IntKind.u64.wrap (↑nc : Int))) = true) ∧ decide (IntKind.u64.wrap (IntKind.u64.wrap (intOf' (getD' undef (rels rs) (0 + x.toNat * 6 + 1 + 1))) + IntKind.u64.wrap (intOf' (getD' undef (rels rs) (0 + x.toNat * 6 + 1 + 1 + 1)))) > IntKind.u64.wrap ((4 : Int) * IntKind.u64.wrap (↑nc : Int))) = true) ∧ decide (IntKind.u64.wrap (IntKind.u64.wrap (intOf' (getD' undef (rels rs) (0 + x.toNat * 6 + 1 + 1))) + IntKind.u64.wrap (intOf' (getD' undef (rels rs) (0 + x.toNat * 6 + 1 + 1 + 1)))) > IntKind.u64.wrap ((4 : Int) * IntKind.u64.wrap (↑nc : Int))) = true) ∧ decide (IntKind.u64.wrap (IntKind.u64.wrap (intOf' (getD' undef (rels rs) (0 + x.toNat * 6 + 1 + 1))) + IntKind.u64.wrap (intOf' (getD' undef (rels rs) (0 + x.toNat * 6 + 1 + 1 + 1)))) > IntKind.u64.wrap ((4 : Int) * IntKind.u64.wrap (↑nc : Int))) = true) ∧ decide (IntKind.u64.wrap (IntKind.u64.wrap (intOf' (getD' undef (rels rs) (0 + x.toNat * 6 + 1 + 1))) + IntKind.u64.wrap (intOf' (getD' undef (rels rs) (0 + x.toNat * 6 + 1 + 1 + 1)))) > IntKind.u64.wrap ((4 : Int) * IntKind.u64.wrap (↑nc : Int))) = true) ∧ decide (IntKind.u64.wrap (IntKind.u64.wrap (intOf' (getD' undef (rels rs) (0 + x.toNat * 6 + 1 + 1))) + IntKind.u64.wrap (intOf' (getD' undef (rels rs) (0 + x.toNat * 6 + 1 + 1 + 1)))) > IntKind.u64.wrap ((4 : Int) * IntKind.u64.wrap (↑nc : Int))) = true) ∧ true = true) ∧ true = true) ∧ true = true) ∧ true = true) ∧ true = true) ∧ true = true) ∧ true = true) ∧ true = true : St }) := by kernel_rfl
theorem rl_e1c (pages : Int) (stack : Int) (types : Int) (nc : Nat) (nr : Nat) (ns : Nat) (data : List UInt8) (a : Int) (b : Int) (c : Int) (d : Int) (e : Int) (f : Int) (g : Int) (h : Int) (rs : List Rl) (x : Int) : evF Try.prog (baseC 3 selK) noLoop 100 10 30 [imgV pages stack types nc nr ns data, layW a b c d e f g h, Value.int IntKind.i64 x] { n := 67, h := [(65, { rw := false, op := some (0, 0), cells := rels rs, it := none : Sy.Blk })], lo := [], esc := 0, T := [(0, false), (1, false), (2, false), (3, true), (4, true), (5, true), (6, true), (7, true), (8, true), (9, true), (10, true), (11, true), (12, true), (13, false), (14, true), (15, false), (16, false), (17, false), (18, false), (19, false), (20, false), (21, false), (22, false), (23, false), (24, false), (25, false), (26, false), (27, true), (28, false), (29, false), (30, false), (31, false), (32, false), (33, false), (34, true), (35, true), (36, true), (37, true), (38, true), (39, true), (40, true), (41, true)], k := 0, O := True : St } = some (Value.bool false, { n := 70, h := [(65, { rw := false, op := some (0, 0), cells := rels rs, it := none : Sy.Blk })], lo := [], esc := 0, T := [], k := 42, O := ((((((((((((((((((((((((((((((((bif hasN (0 + (IntKind.i64.wrap (x - (1 : Int))).toNat * 6 + 0 + 1) (rels rs) && isLikeL [Value.int IntKind.u32 (0 : Int)] (rels rs) (0 + (IntKind.i64.wrap (x - (1 : Int))).toNat * 6 + 0) then ((bif decide ((0 : Int) ≤ IntKind.i64.wrap (x - (1 : Int))) && decide (IntKind.i64.wrap (x - (1 : Int)) < (↑nr : Int)) then ((((((((bif hasN (0 + x.toNat * 6 + 6) (rels rs) && isLikeL [Value.int IntKind.u32 (0 : Int), Value.bool false, Value.int IntKind.u32 (0 : Int), Value.int IntKind.u32 (0 : Int), Value.int IntKind.u16 (0 : Int), Value.int IntKind.u16 (0 : Int)] (rels rs) (0 + x.toNat * 6) then bif decide ((0 : Int) ≤ x) && decide (x < (↑nr : Int)) then True else False else False) ∧ ((intOf' (getD' undef (rels rs) (0 + x.toNat * 6))).tmod (16 : Int) != (0 : Int)) = false) ∧ ((intOf' (getD' undef (rels rs) (0 + x.toNat * 6))).tmod (16 : Int) != (0 : Int)) = false) ∧ ((intOf' (getD' undef (rels rs) (0 + x.toNat * 6))).tmod (16 : Int) != (0 : Int)) = false) ∧ decide (x > (0 : Int)) = true) ∧ decide (x > (0 : Int)) = true) ∧ decide (x > (0 : Int)) = true) ∧ decide (x > (0 : Int)) = true) ∧ decide (x > (0 : Int)) = true else False) ∧ decide (x > (0 : Int)) = true) ∧ decide (x > (0 : Int)) = true else False) ∧ decide (x > (0 : Int)) = true) ∧ decide (x > (0 : Int)) = true) ∧ decide (x > (0 : Int)) = true) ∧ ((intOf' (getD' undef (rels rs) (0 + x.toNat * 6))).tmod (16 : Int) != (0 : Int)) = false) ∧ decide (x > (0 : Int)) = true) ∧ ((intOf' (getD' undef (rels rs) (0 + x.toNat * 6))).tmod (16 : Int) != (0 : Int)) = false) ∧ decide (intOf' (getD' undef (rels rs) (0 + (IntKind.i64.wrap (x - (1 : Int))).toNat * 6 + 0)) ≥ intOf' (getD' undef (rels rs) (0 + x.toNat * 6))) = false) ∧ decide (intOf' (getD' undef (rels rs) (0 + (IntKind.i64.wrap (x - (1 : Int))).toNat * 6 + 0)) ≥ intOf' (getD' undef (rels rs) (0 + x.toNat * 6))) = false) ∧ decide (intOf' (getD' undef (rels rs) (0 + (IntKind.i64.wrap (x - (1 : Int))).toNat * 6 + 0)) ≥ intOf' (getD' undef (rels rs) (0 + x.toNat * 6))) = false) ∧ decide (intOf' (getD' undef (rels rs) (0 + (IntKind.i64.wrap (x - (1 : Int))).toNat * 6 + 0)) ≥ intOf' (getD' undef (rels rs) (0 + x.toNat * 6))) = false) ∧ decide (intOf' (getD' undef (rels rs) (0 + (IntKind.i64.wrap (x - (1 : Int))).toNat * 6 + 0)) ≥ intOf' (getD' undef (rels rs) (0 + x.toNat * 6))) = false) ∧ decide (intOf' (getD' undef (rels rs) (0 + (IntKind.i64.wrap (x - (1 : Int))).toNat * 6 + 0)) ≥ intOf' (getD' undef (rels rs) (0 + x.toNat * 6))) = false) ∧ decide (intOf' (getD' undef (rels rs) (0 + (IntKind.i64.wrap (x - (1 : Int))).toNat * 6 + 0)) ≥ intOf' (getD' undef (rels rs) (0 + x.toNat * 6))) = false) ∧ decide (intOf' (getD' undef (rels rs) (0 + (IntKind.i64.wrap (x - (1 : Int))).toNat * 6 + 0)) ≥ intOf' (getD' undef (rels rs) (0 + x.toNat * 6))) = false) ∧ decide (intOf' (getD' undef (rels rs) (0 + (IntKind.i64.wrap (x - (1 : Int))).toNat * 6 + 0)) ≥ intOf' (getD' undef (rels rs) (0 + x.toNat * 6))) = false) ∧ decide (intOf' (getD' undef (rels rs) (0 + (IntKind.i64.wrap (x - (1 : Int))).toNat * 6 + 0)) ≥ intOf' (getD' undef (rels rs) (0 + x.toNat * 6))) = false) ∧ decide (IntKind.u64.wrap (IntKind.u64.wrap (intOf' (getD' undef (rels rs) (0 + x.toNat * 6))) + (16 : Int)) > IntKind.u64.wrap (↑(lenT data) : Int)) = false) ∧ boolOf' (getD' undef (rels rs) (0 + x.toNat * 6 + 1)) = true) ∧ decide (IntKind.u64.wrap (IntKind.u64.wrap (intOf' (getD' undef (rels rs) (0 + x.toNat * 6 + 1 + 1))) + IntKind.u64.wrap (intOf' (getD' undef (rels rs) (0 + x.toNat * 6 + 1 + 1 + 1)))) > IntKind.u64.wrap ((4 : Int) * IntKind.u64.wrap (↑nc : Int))) = false) ∧ decide (IntKind.u64.wrap (IntKind.u64.wrap (intOf' (getD' undef (rels rs) (0 + x.toNat * 6 + 1 + 1))) + IntKind.u64.wrap (intOf' (getD' undef (rels rs) (0 + x.toNat * 6 + 1 + 1 + 1)))) > IntKind.u64.wrap ((4 : Int) * IntKind.u64.wrap (↑nc : Int))) = false) ∧ decide (IntKind.u64.wrap (IntKind.u64.wrap (intOf' (getD' undef (rels rs) (0 + x.toNat * 6 + 1 + 1))) + IntKind.u64.wrap (intOf' (getD' undef (rels rs) (0 + x.toNat * 6 + 1 + 1 + 1)))) > IntKind.u64.wrap ((4 : Int) * IntKind.u64.wrap (↑nc : Int))) = false) ∧ decide (IntKind.u64.wrap (IntKind.u64.wrap (intOf' (getD' undef (rels rs) (0 + x.toNat * 6 + 1 + 1))) + IntKind.u64.wrap (intOf' (getD' undef (rels rs) (0 + x.toNat * 6 + 1 + 1 + 1)))) > IntKind.u64.wrap ((4 : Int) * IntKind.u64.wrap (↑nc : Int))) = false) ∧ decide (IntKind.u64.wrap (IntKind.u64.wrap (intOf' (getD' undef (rels rs) (0 + x.toNat * 6 + 1 + 1))) + IntKind.u64.wrap (intOf' (getD' undef (rels rs) (0 + x.toNat * 6 + 1 + 1 + 1)))) > IntKind.u64.wrap ((4 : Int) * IntKind.u64.wrap (↑nc : Int))) = false) ∧ decide (IntKind.u64.wrap (IntKind.u64.wrap (intOf' (getD' undef (rels rs) (0 + x.toNat * 6 + 1 + 1))) + IntKind.u64.wrap (intOf' (getD' undef (rels rs) (0 + x.toNat * 6 + 1 + 1 + 1)))) > IntKind.u64.wrap ((4 : Int) * IntKind.u64.wrap (↑nc : Int))) = false) ∧ (bits BinOp.andNot IntKind.u16 (intOf' (getD' undef (rels rs) (0 + x.toNat * 6 + 1 + 1 + 1 + 1))) (133 : Int) != (0 : Int)) = true) ∧ (bits BinOp.andNot IntKind.u16 (intOf' (getD' undef (rels rs) (0 + x.toNat * 6 + 1 + 1 + 1 + 1))) (133 : Int) != (0 : Int)) = true) ∧ (bits BinOp.andNot IntKind.u16 (intOf' (getD' undef (rels rs) (0 + x.toNat * 6 + 1 + 1 + 1 + 1))) (133 : Int) != (0 : Int)) = true) ∧ (bits BinOp.andNot IntKind.u16 (intOf' (getD' undef (rels rs) (0 + x.toNat * 6 + 1 + 1 + 1 + 1))) (133 : Int) != (0 : Int)) = true) ∧ (bits BinOp.andNot IntKind.u16 (intOf' (getD' undef (rels rs) (0 + x.toNat * 6 + 1 + 1 + 1 + 1))) (133 : Int) != (0 : Int)) = true) ∧ (bits BinOp.andNot IntKind.u16 (intOf' (getD' undef (rels rs) (0 + x.toNat * 6 + 1 + 1 + 1 + 1))) (133 : Int) != (0 : Int)) = true) ∧ (bits BinOp.andNot IntKind.u16 (intOf' (getD' undef (rels rs) (0 + x.toNat * 6 + 1 + 1 + 1 + 1))) (133 : Int) != (0 : Int)) = true) ∧ true = true : St }) := by kernel_rfl
theorem rl_f1c (pages : Int) (stack : Int) (types : Int) (nc : Nat) (nr : Nat) (ns : Nat) (data : List UInt8) (a : Int) (b : Int) (c : Int) (d : Int) (e : Int) (f : Int) (g : Int) (h : Int) (rs : List Rl) (x : Int) : evF Try.prog (baseC 3 selK) noLoop 100 10 30 [imgV pages stack types nc nr ns data, layW a b c d e f g h, Value.int IntKind.i64 x] { n := 67, h := [(65, { rw := false, op := some (0, 0), cells := rels rs, it := none : Sy.Blk })], lo := [], esc := 0, T := [(0, false), (1, false), (2, false), (3, true), (4, true), (5, true), (6, true), (7, true), (8, true), (9, true), (10, true), (11, true), (12, true), (13, false), (14, true), (15, false), (16, false), (17, false), (18, false), (19, false), (20, false), (21, false), (22, false), (23, false), (24, false), (25, false), (26, false), (27, true), (28, false), (29, false), (30, false), (31, false), (32, false), (33, false), (34, false), (35, false), (36, false), (37, false), (38, false), (39, false), (40, false), (41, true)], k := 0, O := True : St } = some (Value.bool false, { n := 70, h := [(65, { rw := false, op := some (0, 0), cells := rels rs, it := none : Sy.Blk })], lo := [], esc := 0, T := [], k := 42, O := ((((((((((((((((((((((((((((((((bif hasN (0 + (IntKind.i64.wrap (x - (1 : Int))).toNat * 6 + 0 + 1) (rels rs) && isLikeL [Value.int IntKind.u32 (0 : Int)] (rels rs) (0 + (IntKind.i64.wrap (x - (1 : Int))).toNat * 6 + 0) then ((bif decide ((0 : Int) ≤ IntKind.i64.wrap (x - (1 : Int))) && decide (IntKind.i64.wrap (x - (1 : Int)) < (↑nr : Int)) then ((((((((bif hasN (0 + x.toNat * 6 + 6) (rels rs) && isLikeL [Value.int IntKind.u32 (0 : Int), Value.bool false, Value.int IntKind.u32 (0 : Int), Value.int IntKind.u32 (0 : Int), Value.int IntKind.u16 (0 : Int), Value.int IntKind.u16 (0 : Int)] (rels rs) (0 + x.toNat * 6) then bif decide ((0 : Int) ≤ x) && decide (x < (↑nr : Int)) then True else False else False) ∧ ((intOf' (getD' undef (rels rs) (0 + x.toNat * 6))).tmod (16 : Int) != (0 : Int)) = false) ∧ ((intOf' (getD' undef (rels rs) (0 + x.toNat * 6))).tmod (16 : Int) != (0 : Int)) = false) ∧ ((intOf' (getD' undef (rels rs) (0 + x.toNat * 6))).tmod (16 : Int) != (0 : Int)) = false) ∧ decide (x > (0 : Int)) = true) ∧ decide (x > (0 : Int)) = true) ∧ decide (x > (0 : Int)) = true) ∧ decide (x > (0 : Int)) = true) ∧ decide (x > (0 : Int)) = true else False) ∧ decide (x > (0 : Int)) = true) ∧ decide (x > (0 : Int)) = true else False) ∧ decide (x > (0 : Int)) = true) ∧ decide (x > (0 : Int)) = true) ∧ decide (x > (0 : Int)) = true) ∧ ((intOf' (getD' undef (rels rs) (0 + x.toNat * 6))).tmod (16 : Int) != (0 : Int)) = false) ∧ decide (x > (0 : Int)) = true) ∧ ((intOf' (getD' undef (rels rs) (0 + x.toNat * 6))).tmod (16 : Int) != (0 : Int)) = false) ∧ decide (intOf' (getD' undef (rels rs) (0 + (IntKind.i64.wrap (x - (1 : Int))).toNat * 6 + 0)) ≥ intOf' (getD' undef (rels rs) (0 + x.toNat * 6))) = false) ∧ decide (intOf' (getD' undef (rels rs) (0 + (IntKind.i64.wrap (x - (1 : Int))).toNat * 6 + 0)) ≥ intOf' (getD' undef (rels rs) (0 + x.toNat * 6))) = false) ∧ decide (intOf' (getD' undef (rels rs) (0 + (IntKind.i64.wrap (x - (1 : Int))).toNat * 6 + 0)) ≥ intOf' (getD' undef (rels rs) (0 + x.toNat * 6))) = false) ∧ decide (intOf' (getD' undef (rels rs) (0 + (IntKind.i64.wrap (x - (1 : Int))).toNat * 6 + 0)) ≥ intOf' (getD' undef (rels rs) (0 + x.toNat * 6))) = false) ∧ decide (intOf' (getD' undef (rels rs) (0 + (IntKind.i64.wrap (x - (1 : Int))).toNat * 6 + 0)) ≥ intOf' (getD' undef (rels rs) (0 + x.toNat * 6))) = false) ∧ decide (intOf' (getD' undef (rels rs) (0 + (IntKind.i64.wrap (x - (1 : Int))).toNat * 6 + 0)) ≥ intOf' (getD' undef (rels rs) (0 + x.toNat * 6))) = false) ∧ decide (intOf' (getD' undef (rels rs) (0 + (IntKind.i64.wrap (x - (1 : Int))).toNat * 6 + 0)) ≥ intOf' (getD' undef (rels rs) (0 + x.toNat * 6))) = false) ∧ decide (intOf' (getD' undef (rels rs) (0 + (IntKind.i64.wrap (x - (1 : Int))).toNat * 6 + 0)) ≥ intOf' (getD' undef (rels rs) (0 + x.toNat * 6))) = false) ∧ decide (intOf' (getD' undef (rels rs) (0 + (IntKind.i64.wrap (x - (1 : Int))).toNat * 6 + 0)) ≥ intOf' (getD' undef (rels rs) (0 + x.toNat * 6))) = false) ∧ decide (intOf' (getD' undef (rels rs) (0 + (IntKind.i64.wrap (x - (1 : Int))).toNat * 6 + 0)) ≥ intOf' (getD' undef (rels rs) (0 + x.toNat * 6))) = false) ∧ decide (IntKind.u64.wrap (IntKind.u64.wrap (intOf' (getD' undef (rels rs) (0 + x.toNat * 6))) + (16 : Int)) > IntKind.u64.wrap (↑(lenT data) : Int)) = false) ∧ boolOf' (getD' undef (rels rs) (0 + x.toNat * 6 + 1)) = true) ∧ decide (IntKind.u64.wrap (IntKind.u64.wrap (intOf' (getD' undef (rels rs) (0 + x.toNat * 6 + 1 + 1))) + IntKind.u64.wrap (intOf' (getD' undef (rels rs) (0 + x.toNat * 6 + 1 + 1 + 1)))) > IntKind.u64.wrap ((4 : Int) * IntKind.u64.wrap (↑nc : Int))) = false) ∧ decide (IntKind.u64.wrap (IntKind.u64.wrap (intOf' (getD' undef (rels rs) (0 + x.toNat * 6 + 1 + 1))) + IntKind.u64.wrap (intOf' (getD' undef (rels rs) (0 + x.toNat * 6 + 1 + 1 + 1)))) > IntKind.u64.wrap ((4 : Int) * IntKind.u64.wrap (↑nc : Int))) = false) ∧ decide (IntKind.u64.wrap (IntKind.u64.wrap (intOf' (getD' undef (rels rs) (0 + x.toNat * 6 + 1 + 1))) + IntKind.u64.wrap (intOf' (getD' undef (rels rs) (0 + x.toNat * 6 + 1 + 1 + 1)))) > IntKind.u64.wrap ((4 : Int) * IntKind.u64.wrap (↑nc : Int))) = false) ∧ decide (IntKind.u64.wrap (IntKind.u64.wrap (intOf' (getD' undef (rels rs) (0 + x.toNat * 6 + 1 + 1))) + IntKind.u64.wrap (intOf' (getD' undef (rels rs) (0 + x.toNat * 6 + 1 + 1 + 1)))) > IntKind.u64.wrap ((4 : Int) * IntKind.u64.wrap (↑nc : Int))) = false) ∧ decide (IntKind.u64.wrap (IntKind.u64.wrap (intOf' (getD' undef (rels rs) (0 + x.toNat * 6 + 1 + 1))) + IntKind.u64.wrap (intOf' (getD' undef (rels rs) (0 + x.toNat * 6 + 1 + 1 + 1)))) > IntKind.u64.wrap ((4 : Int) * IntKind.u64.wrap (↑nc : Int))) = false) ∧ decide (IntKind.u64.wrap (IntKind.u64.wrap (intOf' (getD' undef (rels rs) (0 + x.toNat * 6 + 1 + 1))) + IntKind.u64.wrap (intOf' (getD' undef (rels rs) (0 + x.toNat * 6 + 1 + 1 + 1)))) > IntKind.u64.wrap ((4 : Int) * IntKind.u64.wrap (↑nc : Int))) = false) ∧ (bits BinOp.andNot IntKind.u16 (intOf' (getD' undef (rels rs) (0 + x.toNat * 6 + 1 + 1 + 1 + 1))) (133 : Int) != (0 : Int)) = false) ∧ (bits BinOp.andNot IntKind.u16 (intOf' (getD' undef (rels rs) (0 + x.toNat * 6 + 1 + 1 + 1 + 1))) (133 : Int) != (0 : Int)) = false) ∧ (bits BinOp.andNot IntKind.u16 (intOf' (getD' undef (rels rs) (0 + x.toNat * 6 + 1 + 1 + 1 + 1))) (133 : Int) != (0 : Int)) = false) ∧ (bits BinOp.andNot IntKind.u16 (intOf' (getD' undef (rels rs) (0 + x.toNat * 6 + 1 + 1 + 1 + 1))) (133 : Int) != (0 : Int)) = false) ∧ (bits BinOp.andNot IntKind.u16 (intOf' (getD' undef (rels rs) (0 + x.toNat * 6 + 1 + 1 + 1 + 1))) (133 : Int) != (0 : Int)) = false) ∧ (bits BinOp.andNot IntKind.u16 (intOf' (getD' undef (rels rs) (0 + x.toNat * 6 + 1 + 1 + 1 + 1))) (133 : Int) != (0 : Int)) = false) ∧ (bits BinOp.andNot IntKind.u16 (intOf' (getD' undef (rels rs) (0 + x.toNat * 6 + 1 + 1 + 1 + 1))) (133 : Int) != (0 : Int)) = false) ∧ decide (IntKind.i64.wrap (intOf' (getD' undef (rels rs) (0 + x.toNat * 6 + 1 + 1 + 1 + 1 + 1))) > types) = true : St }) := by kernel_rfl
theorem rl_g1c (pages : Int) (stack : Int) (types : Int) (nc : Nat) (nr : Nat) (ns : Nat) (data : List UInt8) (a : Int) (b : Int) (c : Int) (d : Int) (e : Int) (f : Int) (g : Int) (h : Int) (rs : List Rl) (x : Int) : evF Try.prog (baseC 3 selK) noLoop 100 10 30 [imgV pages stack types nc nr ns data, layW a b c d e f g h, Value.int IntKind.i64 x] { n := 67, h := [(65, { rw := false, op := some (0, 0), cells := rels rs, it := none : Sy.Blk })], lo := [], esc := 0, T := [(0, false), (1, false), (2, false), (3, true), (4, true), (5, true), (6, true), (7, true), (8, true), (9, true), (10, true), (11, true), (12, true), (13, false), (14, true), (15, false), (16, false), (17, false), (18, false), (19, false), (20, false), (21, false), (22, false), (23, false), (24, false), (25, false), (26, false), (27, true), (28, false), (29, false), (30, false), (31, false), (32, false), (33, false), (34, false), (35, false), (36, false), (37, false), (38, false), (39, false), (40, false), (41, false), (42, true), (43, true)], k := 0, O := True : St } = some (Value.bool (encX (IntKind.u32.wrap (a + intOf' (getD' undef (rels rs) (0 + x.toNat * 6 + 1 + 1)))).toNat (IntKind.u64.wrap (IntKind.u64.wrap (IntKind.u32.wrap (a + intOf' (getD' undef (rels rs) (0 + x.toNat * 6 + 1 + 1)))) + IntKind.u64.wrap (intOf' (getD' undef (rels rs) (0 + x.toNat * 6 + 1 + 1 + 1))))).toNat), { n := 70, h := [(65, { rw := false, op := some (0, 0), cells := rels rs, it := none : Sy.Blk })], lo := [], esc := 0, T := [], k := 44, O := (((((((((((((((((((((((((((((((((((bif hasN (0 + (IntKind.i64.wrap (x - (1 : Int))).toNat * 6 + 0 + 1) (rels rs) && isLikeL [Value.int IntKind.u32 (0 : Int)] (rels rs) (0 + (IntKind.i64.wrap (x - (1 : Int))).toNat * 6 + 0) then ((bif decide ((0 : Int) ≤ IntKind.i64.wrap (x - (1 : Int))) && decide (IntKind.i64.wrap (x - (1 : Int)) < (↑nr : Int)) then ((((((((bif hasN (0 + x.toNat * 6 + 6) (rels rs) && isLikeL [Value.int IntKind.u32 (0 : Int), Value.bool false, Value.int IntKind.u32 (0 : Int), Value.int IntKind.u32 (0 : Int), Value.int IntKind.u16 (0 : Int), Value.int IntKind.u16 (0 : Int)] (rels rs) (0 + x.toNat * 6) then bif decide ((0 : Int) ≤ x) && decide (x < (↑nr : Int)) then True else False else False) ∧ ((intOf' (getD' undef (rels rs) (0 + x.toNat * 6))).tmod (16 : Int) != (0 : Int)) = false) ∧ ((intOf' (getD' undef (rels rs) (0 + x.toNat * 6))).tmod (16 : Int) != (0 : Int)) = false) ∧ ((intOf' (getD' undef (rels rs) (0 + x.toNat * 6))).tmod (16 : Int) != (0 : Int)) = false) ∧ decide (x > (0 : Int)) = true) ∧ decide (x > (0 : Int)) = true) ∧ decide (x > (0 : Int)) = true) ∧ decide (x > (0 : Int)) = true) ∧ decide (x > (0 : Int)) = true else False) ∧ decide (x > (0 : Int)) = true) ∧ decide (x > (0 : Int)) = true else False) ∧ decide (x > (0 : Int)) = true) ∧ decide (x > (0 : Int)) = true) ∧ decide (x > (0 : Int)) = true) ∧ ((intOf' (getD' undef (rels rs) (0 + x.toNat * 6))).tmod (16 : Int) != (0 : Int)) = false) ∧ decide (x > (0 : Int)) = true) ∧ ((intOf' (getD' undef (rels rs) (0 + x.toNat * 6))).tmod (16 : Int) != (0 : Int)) = false) ∧ decide (intOf' (getD' undef (rels rs) (0 + (IntKind.i64.wrap (x - (1 : Int))).toNat * 6 + 0)) ≥ intOf' (getD' undef (rels rs) (0 + x.toNat * 6))) = false) ∧ decide (intOf' (getD' undef (rels rs) (0 + (IntKind.i64.wrap (x - (1 : Int))).toNat * 6 + 0)) ≥ intOf' (getD' undef (rels rs) (0 + x.toNat * 6))) = false) ∧ decide (intOf' (getD' undef (rels rs) (0 + (IntKind.i64.wrap (x - (1 : Int))).toNat * 6 + 0)) ≥ intOf' (getD' undef (rels rs) (0 + x.toNat * 6))) = false) ∧ decide (intOf' (getD' undef (rels rs) (0 + (IntKind.i64.wrap (x - (1 : Int))).toNat * 6 + 0)) ≥ intOf' (getD' undef (rels rs) (0 + x.toNat * 6))) = false) ∧ decide (intOf' (getD' undef (rels rs) (0 + (IntKind.i64.wrap (x - (1 : Int))).toNat * 6 + 0)) ≥ intOf' (getD' undef (rels rs) (0 + x.toNat * 6))) = false) ∧ decide (intOf' (getD' undef (rels rs) (0 + (IntKind.i64.wrap (x - (1 : Int))).toNat * 6 + 0)) ≥ intOf' (getD' undef (rels rs) (0 + x.toNat * 6))) = false) ∧ decide (intOf' (getD' undef (rels rs) (0 + (IntKind.i64.wrap (x - (1 : Int))).toNat * 6 + 0)) ≥ intOf' (getD' undef (rels rs) (0 + x.toNat * 6))) = false) ∧ decide (intOf' (getD' undef (rels rs) (0 + (IntKind.i64.wrap (x - (1 : Int))).toNat * 6 + 0)) ≥ intOf' (getD' undef (rels rs) (0 + x.toNat * 6))) = false) ∧ decide (intOf' (getD' undef (rels rs) (0 + (IntKind.i64.wrap (x - (1 : Int))).toNat * 6 + 0)) ≥ intOf' (getD' undef (rels rs) (0 + x.toNat * 6))) = false) ∧ decide (intOf' (getD' undef (rels rs) (0 + (IntKind.i64.wrap (x - (1 : Int))).toNat * 6 + 0)) ≥ intOf' (getD' undef (rels rs) (0 + x.toNat * 6))) = false) ∧ decide (IntKind.u64.wrap (IntKind.u64.wrap (intOf' (getD' undef (rels rs) (0 + x.toNat * 6))) + (16 : Int)) > IntKind.u64.wrap (↑(lenT data) : Int)) = false) ∧ boolOf' (getD' undef (rels rs) (0 + x.toNat * 6 + 1)) = true) ∧ decide (IntKind.u64.wrap (IntKind.u64.wrap (intOf' (getD' undef (rels rs) (0 + x.toNat * 6 + 1 + 1))) + IntKind.u64.wrap (intOf' (getD' undef (rels rs) (0 + x.toNat * 6 + 1 + 1 + 1)))) > IntKind.u64.wrap ((4 : Int) * IntKind.u64.wrap (↑nc : Int))) = false) ∧ decide (IntKind.u64.wrap (IntKind.u64.wrap (intOf' (getD' undef (rels rs) (0 + x.toNat * 6 + 1 + 1))) + IntKind.u64.wrap (intOf' (getD' undef (rels rs) (0 + x.toNat * 6 + 1 + 1 + 1)))) > IntKind.u64.wrap ((4 : Int) * IntKind.u64.wrap (↑nc : Int))) = false) ∧ decide (IntKind.u64.wrap (IntKind.u64.wrap (intOf' (getD' undef (rels rs) (0 + x.toNat * 6 + 1 + 1))) + IntKind.u64.wrap (intOf' (getD' undef (rels rs) (0 + x.toNat * 6 + 1 + 1 + 1)))) > IntKind.u64.wrap ((4 : Int) * IntKind.u64.wrap (↑nc : Int))) = false) ∧ decide (IntKind.u64.wrap (IntKind.u64.wrap (intOf' (getD' undef (rels rs) (0 + x.toNat * 6 + 1 + 1))) + IntKind.u64.wrap (intOf' (getD' undef (rels rs) (0 + x.toNat * 6 + 1 + 1 + 1)))) > IntKind.u64.wrap ((4 : Int) * IntKind.u64.wrap (↑nc : Int))) = false) ∧ decide (IntKind.u64.wrap (IntKind.u64.wrap (intOf' (getD' undef (rels rs) (0 + x.toNat * 6 + 1 + 1))) + IntKind.u64.wrap (intOf' (getD' undef (rels rs) (0 + x.toNat * 6 + 1 + 1 + 1)))) > IntKind.u64.wrap ((4 : Int) * IntKind.u64.wrap (↑nc : Int))) = false) ∧ decide (IntKind.u64.wrap (IntKind.u64.wrap (intOf' (getD' undef (rels rs) (0 + x.toNat * 6 + 1 + 1))) + IntKind.u64.wrap (intOf' (getD' undef (rels rs) (0 + x.toNat * 6 + 1 + 1 + 1)))) > IntKind.u64.wrap ((4 : Int) * IntKind.u64.wrap (↑nc : Int))) = false) ∧ (bits BinOp.andNot IntKind.u16 (intOf' (getD' undef (rels rs) (0 + x.toNat * 6 + 1 + 1 + 1 + 1))) (133 : Int) != (0 : Int)) = false) ∧ (bits BinOp.andNot IntKind.u16 (intOf' (getD' undef (rels rs) (0 + x.toNat * 6 + 1 + 1 + 1 + 1))) (133 : Int) != (0 : Int)) = false) ∧ (bits BinOp.andNot IntKind.u16 (intOf' (getD' undef (rels rs) (0 + x.toNat * 6 + 1 + 1 + 1 + 1))) (133 : Int) != (0 : Int)) = false) ∧ (bits BinOp.andNot IntKind.u16 (intOf' (getD' undef (rels rs) (0 + x.toNat * 6 + 1 + 1 + 1 + 1))) (133 : Int) != (0 : Int)) = false) ∧ (bits BinOp.andNot IntKind.u16 (intOf' (getD' undef (rels rs) (0 + x.toNat * 6 + 1 + 1 + 1 + 1))) (133 : Int) != (0 : Int)) = false) ∧ (bits BinOp.andNot IntKind.u16 (intOf' (getD' undef (rels rs) (0 + x.toNat * 6 + 1 + 1 + 1 + 1))) (133 : Int) != (0 : Int)) = false) ∧ (bits BinOp.andNot IntKind.u16 (intOf' (getD' undef (rels rs) (0 + x.toNat * 6 + 1 + 1 + 1 + 1))) (133 : Int) != (0 : Int)) = false) ∧ decide (IntKind.i64.wrap (intOf' (getD' undef (rels rs) (0 + x.toNat * 6 + 1 + 1 + 1 + 1 + 1))) > types) = false) ∧ (((0 : Int) ≤ IntKind.u32.wrap (a + intOf' (getD' undef (rels rs) (0 + x.toNat * 6 + 1 + 1))) ∧ IntKind.u32.wrap (a + intOf' (getD' undef (rels rs) (0 + x.toNat * 6 + 1 + 1))) < (4294967296 : Int)) ∧ (0 : Int) ≤ IntKind.u64.wrap (IntKind.u64.wrap (IntKind.u32.wrap (a + intOf' (getD' undef (rels rs) (0 + x.toNat * 6 + 1 + 1)))) + IntKind.u64.wrap (intOf' (getD' undef (rels rs) (0 + x.toNat * 6 + 1 + 1 + 1)))) ∧ IntKind.u64.wrap (IntKind.u64.wrap (IntKind.u32.wrap (a + intOf' (getD' undef (rels rs) (0 + x.toNat * 6 + 1 + 1)))) + IntKind.u64.wrap (intOf' (getD' undef (rels rs) (0 + x.toNat * 6 + 1 + 1 + 1)))) < (18446744073709551616 : Int)) ∧ (Value.int IntKind.u32 (IntKind.u32.wrap (a + intOf' (getD' undef (rels rs) (0 + x.toNat * 6 + 1 + 1)))) = Value.int IntKind.u32 (IntKind.u32.wrap (a + intOf' (getD' undef (rels rs) (0 + x.toNat * 6 + 1 + 1)))) ∧ Value.int IntKind.u64 (IntKind.u64.wrap (IntKind.u64.wrap (IntKind.u32.wrap (a + intOf' (getD' undef (rels rs) (0 + x.toNat * 6 + 1 + 1)))) + IntKind.u64.wrap (intOf' (getD' undef (rels rs) (0 + x.toNat * 6 + 1 + 1 + 1))))) = Value.int IntKind.u64 (IntKind.u64.wrap (IntKind.u64.wrap (IntKind.u32.wrap (a + intOf' (getD' undef (rels rs) (0 + x.toNat * 6 + 1 + 1)))) + IntKind.u64.wrap (intOf' (getD' undef (rels rs) (0 + x.toNat * 6 + 1 + 1 + 1))))) ∧ True) ∧ True ∧ True) ∧ rightN (IntKind.u32.wrap (a + intOf' (getD' undef (rels rs) (0 + x.toNat * 6 + 1 + 1)))).toNat (IntKind.u64.wrap (IntKind.u64.wrap (IntKind.u32.wrap (a + intOf' (getD' undef (rels rs) (0 + x.toNat * 6 + 1 + 1)))) + IntKind.u64.wrap (intOf' (getD' undef (rels rs) (0 + x.toNat * 6 + 1 + 1 + 1))))).toNat = true) ∧ rightN (IntKind.u32.wrap (a + intOf' (getD' undef (rels rs) (0 + x.toNat * 6 + 1 + 1)))).toNat (IntKind.u64.wrap (IntKind.u64.wrap (IntKind.u32.wrap (a + intOf' (getD' undef (rels rs) (0 + x.toNat * 6 + 1 + 1)))) + IntKind.u64.wrap (intOf' (getD' undef (rels rs) (0 + x.toNat * 6 + 1 + 1 + 1))))).toNat = true : St }) := by kernel_rfl
end Go.Proofs.Ytdljpnebpoaeiaa
namespace Go.Proofs.Ytdljpnebpoaeiaa
set_option linter.unusedVariables false
set_option linter.unusedSimpArgs false
open Go.RowKit
open Sy
def rl0 (rs : List Rl) (k : Nat) : Rl := rs.getD k ⟨0, false, 0, 0, 0, 0⟩
theorem getD'_append (d : Value) : ∀ (a b : List Value) (i : Nat), getD' d (a ++ b) (a.length + i) = getD' d b i
  | [], b, i => by simp
  | x :: a, b, i => by
    have := getD'_append d a b i
    rw [show (x :: a).length + i = (a.length + i) + 1 by simp; omega]
    exact this
theorem rels_cons (x : Rl) (rs : List Rl) : rels (x :: rs) = relC x ++ rels rs := by simp [rels]
theorem rels_len (rs : List Rl) : (rels rs).length = rs.length * 6 := by
  induction rs with
  | nil => rfl
  | cons x rs ih => rw [rels_cons, List.length_append, ih]; simp [relC]; omega
theorem rels_get : ∀ (rs : List Rl) (k j : Nat), k < rs.length → j < 6 → getD' undef (rels rs) (k * 6 + j) = getD' undef (relC (rl0 rs k)) j
  | [], k, j, h, _ => by simp at h
  | x :: rs, 0, j, _, hj => by
    rw [rels_cons]
    obtain rfl | rfl | rfl | rfl | rfl | rfl : j = 0 ∨ j = 1 ∨ j = 2 ∨ j = 3 ∨ j = 4 ∨ j = 5 := by omega
    all_goals rfl
  | x :: rs, k + 1, j, h, hj => by
    rw [rels_cons, show (k + 1) * 6 + j = (relC x).length + (k * 6 + j) by simp [relC]; omega, getD'_append]
    exact rels_get rs k j (by simp at h; omega) hj
theorem rels_0 {rs : List Rl} {k : Nat} (h : k < rs.length) : intOf' (getD' undef (rels rs) (k * 6)) = ((rl0 rs k).at_ : Int) := by
  have := rels_get rs k 0 h (by omega); rw [Nat.add_zero] at this; rw [this]; rfl
theorem rels_1 {rs : List Rl} {k : Nat} (h : k < rs.length) : boolOf' (getD' undef (rels rs) (k * 6 + 1)) = (rl0 rs k).code := by rw [rels_get rs k 1 h (by omega)]; rfl
theorem rels_2 {rs : List Rl} {k : Nat} (h : k < rs.length) : intOf' (getD' undef (rels rs) (k * 6 + 2)) = ((rl0 rs k).off : Int) := by rw [rels_get rs k 2 h (by omega)]; rfl
theorem rels_3 {rs : List Rl} {k : Nat} (h : k < rs.length) : intOf' (getD' undef (rels rs) (k * 6 + 3)) = ((rl0 rs k).size : Int) := by rw [rels_get rs k 3 h (by omega)]; rfl
theorem rels_4 {rs : List Rl} {k : Nat} (h : k < rs.length) : intOf' (getD' undef (rels rs) (k * 6 + 4)) = ((rl0 rs k).perms : Int) := by rw [rels_get rs k 4 h (by omega)]; rfl
theorem rels_5 {rs : List Rl} {k : Nat} (h : k < rs.length) : intOf' (getD' undef (rels rs) (k * 6 + 5)) = ((rl0 rs k).typ : Int) := by rw [rels_get rs k 5 h (by omega)]; rfl
theorem rels_has {rs : List Rl} (n : Nat) : hasN n (rels rs) = decide (n ≤ rs.length * 6) := by
  rw [Bool.eq_iff_iff, hasN_iff, rels_len]; simp
theorem rels_like {rs : List Rl} {k : Nat} (h : k < rs.length) (a c d e f : Int) (b : Bool) : isLikeL [.int .u32 a, .bool b, .int .u32 c, .int .u32 d, .int .u16 e, .int .u16 f] (rels rs) (k * 6) = true := by
  have h0 := rels_get rs k 0 h (by omega)
  rw [Nat.add_zero] at h0
  simp only [isLikeL, Nat.add_assoc, Nat.reduceAdd, h0, rels_get rs k 1 h (by omega), rels_get rs k 2 h (by omega), rels_get rs k 3 h (by omega), rels_get rs k 4 h (by omega), rels_get rs k 5 h (by omega)]
  rfl
theorem rels_like1 {rs : List Rl} {k : Nat} (h : k < rs.length) (a : Int) : isLikeL [.int .u32 a] (rels rs) (k * 6) = true := by
  have h0 := rels_get rs k 0 h (by omega)
  rw [Nat.add_zero] at h0
  simp only [isLikeL, h0]
  rfl
theorem rels_flat (rs : List Rl) : ∀ v ∈ rels rs, flat0 v = true := by
  intro v hv
  unfold rels at hv
  obtain ⟨x, _, hx⟩ := List.mem_flatMap.1 hv
  simp only [relC, List.mem_cons, List.not_mem_nil, or_false] at hx
  rcases hx with rfl | rfl | rfl | rfl | rfl | rfl <;> rfl
end Go.Proofs.Ytdljpnebpoaeiaa
namespace Go.Proofs.Ytdljpnebpoaeiaa
set_option linter.unusedVariables false
set_option linter.unusedSimpArgs false
open Go.RowKit
open Sy
set_option linter.unusedSimpArgs false
def behindN (rs : List Rl) (k : Nat) : Nat := match k with | 0 => 0 | k + 1 => (rl0 rs k).at_ + 16
def relocC (pages stack types : Int) (nc ns : Nat) (data : List UInt8) (a : Nat) (b : Int) (c : Nat) (d e f g h : Int) (rs : List Rl) (k : Nat) : Con :=
  ⟨[imgV pages stack types nc rs.length ns data, layW a b c d e f g h, .int .i64 (k : Int)], 67, [(65, ⟨false, some (0, 0), rels rs, none⟩)], [], .bool (relRight types nc data.length a c (rl0 rs k) (behindN rs k)), 67, [(65, ⟨false, some (0, 0), rels rs, none⟩)], []⟩
def relocOk (nc len a c : Nat) (rs : List Rl) (k : Nat) : Prop :=
  rightOk nc len a c (rl0 rs k) ∧ k < rs.length ∧ rs.length ≤ 100000 ∧ match k with | 0 => True | k + 1 => (rl0 rs k).at_ % 16 = 0 ∧ (rl0 rs k).at_ + 16 ≤ len
theorem relWf (pages stack types : Int) (nc ns : Nat) (data : List UInt8) (a : Nat) (b : Int) (c : Nat) (d e f g h : Int) (rs : List Rl) (k : Nat) : (relocC pages stack types nc ns data a b c d e f g h rs k).Wf 3 :=
  ⟨by show NG ≤ 67; decide, Nat.le_refl _, ⟨⟨rfl, rfl, flat_bnd (rels_flat rs)⟩, trivial⟩, rfl, rfl, rfl, by kernel_rfl, rfl, fun x hx v hv => by
    obtain rfl := List.mem_singleton.1 hx
    exact okV_flat0 (rels_flat rs v hv) 3⟩
theorem reloc_any {pages stack types : Int} {nc ns : Nat} {data : List UInt8} {a : Nat} {b : Int} {c : Nat} {d e f g h : Int} {rs : List Rl} {k : Nat} {T : List (Nat × Bool)} {v : Value} {n k' : Nat} {q : Prop}
    (hr : evF Try.prog (baseC 3 selK) noLoop 100 10 30 [imgV pages stack types nc rs.length ns data, layW a b c d e f g h, .int .i64 (k : Int)] ⟨67, [(65, ⟨false, some (0, 0), rels rs, none⟩)], [], 0, T, 0, True⟩ = some (v, ⟨n, [(65, ⟨false, some (0, 0), rels rs, none⟩)], [], 0, [], k', q⟩))
    (hv : v = .bool (relRight types nc data.length a c (rl0 rs k) (behindN rs k))) (hq : q) : ConOk Try.prog 30 3 (relocC pages stack types nc ns data a b c d e f g h rs k) := by
  subst hv
  refine conOk_run (run_ok i_names (baseC_ok selK_ok) (noLoop_ok _) 10) (relWf pages stack types nc ns data a b c d e f g h rs k) (T := T) (p := fun l => Nat.blt l 67) (σ := id) hr hq ?_
  exact ⟨fun _ _ => rfl, ⟨⟨rfl, flat_all (rels_flat rs), rfl, rfl, rfl, trivial, (flat_map (rels_flat rs)).symm⟩, trivial⟩, rfl, trivial, ⟨rfl, rfl⟩, rfl, ⟨⟨rfl, rfl, flat_bnd (rels_flat rs)⟩, trivial⟩, rfl, bnd_flat0 _ rfl, fun x _ _ => .inl rfl⟩
theorem reloc_0 (pages stack types : Int) (nc ns : Nat) (data : List UInt8) (a : Nat) (b : Int) (c : Nat) (d e f g h : Int) (rs : List Rl) (hq : relocOk nc data.length a c rs 0) : ConOk Try.prog 30 3 (relocC pages stack types nc ns data a b c d e f g h rs 0) := by
  obtain ⟨⟨hr, hn, hl, ha, hc⟩, hk, hm, hp⟩ := hq
  rcases hrr : rl0 rs 0 with ⟨at_, code, off, size, perms, typ⟩
  rw [hrr] at hr
  have f0 : intOf' (getD' undef (rels rs) 0) = (at_ : Int) := by
    have := rels_0 hk; rw [hrr] at this; exact this
  have f1 : boolOf' (getD' undef (rels rs) 1) = code := by
    have := rels_1 hk; rw [hrr] at this; exact this
  have f2 : intOf' (getD' undef (rels rs) 2) = (off : Int) := by
    have := rels_2 hk; rw [hrr] at this; exact this
  have f3 : intOf' (getD' undef (rels rs) 3) = (size : Int) := by
    have := rels_3 hk; rw [hrr] at this; exact this
  have f4 : intOf' (getD' undef (rels rs) 4) = (perms : Int) := by
    have := rels_4 hk; rw [hrr] at this; exact this
  have f5 : intOf' (getD' undef (rels rs) 5) = (typ : Int) := by
    have := rels_5 hk; rw [hrr] at this; exact this
  have g1 : hasN 6 (rels rs) = true := by rw [rels_has]; simp; omega
  have g2 : isLikeL [Value.int IntKind.u32 (0 : Int), Value.bool false, Value.int IntKind.u32 (0 : Int), Value.int IntKind.u32 (0 : Int), Value.int IntKind.u16 (0 : Int), Value.int IntKind.u16 (0 : Int)] (rels rs) 0 = true := rels_like (k := 0) hk _ _ _ _ _ _
  have g3 : decide ((0 : Int) < (rs.length : Int)) = true := by simp; omega
  have hb4 : IntKind.u64.wrap ((4 : Int) * IntKind.u64.wrap (nc : Int)) = IntKind.u64.wrap ((4 * nc : Nat) : Int) := by rw [IntKind.wrap_u64, IntKind.wrap_u64, IntKind.wrap_u64]; omega
  have hbh : behindN rs 0 = 0 := rfl
  cases code
  · have hor := right_or types nc data.length false at_ off size perms typ data.length 155 0 hr hn hl rfl rfl
    cases hA : ((at_ : Int).tmod 16 != 0)
    · have ha0 : at_ % 16 = 0 := by
        rw [show (16 : Int) = ((16 : Nat) : Int) from rfl, ← Int.ofNat_tmod] at hA; simp only [bne_eq_false_iff_eq] at hA; omega
      have hB0 : decide ((at_ : Int) < ((0 : Nat) : Int)) = false := by simp
      · cases hC : decide (IntKind.u64.wrap (IntKind.u64.wrap (at_ : Int) + 16) > IntKind.u64.wrap (data.length : Int))
        · cases hD : decide (IntKind.u64.wrap (IntKind.u64.wrap (off : Int) + IntKind.u64.wrap (size : Int)) > IntKind.u64.wrap (data.length : Int))
          · cases hE : (bits BinOp.andNot IntKind.u16 (perms : Int) 155 != 0)
            · cases hF : decide (IntKind.i64.wrap (typ : Int) > types)
              · have ho : off + size ≤ 16384 := by
                  rw [IntKind.wrap_u64, IntKind.wrap_u64, IntKind.wrap_u64, IntKind.wrap_u64] at hD; have := hr.off; have := hr.size; simp only [decide_eq_false_iff_not] at *; omega
                have e1 : IntKind.u32.wrap ((c : Int) + (off : Int)) = ((c + off : Nat) : Int) := by rw [IntKind.wrap_u32]; omega
                have e2 : IntKind.u64.wrap (IntKind.u64.wrap ((c + off : Nat) : Int) + IntKind.u64.wrap (size : Int)) = ((c + off + size : Nat) : Int) := by rw [IntKind.wrap_u64, IntKind.wrap_u64, IntKind.wrap_u64]; omega
                have z1 : (0 : Int) ≤ ((c + off : Nat) : Int) := by omega
                have z2 : ((c + off : Nat) : Int) < 4294967296 := by omega
                have z3 : (0 : Int) ≤ ((c + off + size : Nat) : Int) := by omega
                have z4 : ((c + off + size : Nat) : Int) < 18446744073709551616 := by omega
                have z5 : rightN (c + off) (c + off + size) = true := by unfold rightN; simp; omega
                have hh := rl_g0d pages stack types nc rs.length ns data a b c d e f g h rs
                try rw [f0] at hh
                try rw [f1] at hh
                try rw [f2] at hh
                try rw [f3] at hh
                try rw [f4] at hh
                try rw [f5] at hh
                try rw [lenT_eq] at hh
                rw [e1, e2, Int.toNat_natCast, Int.toNat_natCast] at hh
                refine reloc_any hh ?_ ?_
                · rw [hrr, hbh]; unfold relRight; rw [← hor]; simp only [hA, hC, hD, hE, hF, hB0, Bool.or_false, Bool.not_false, Bool.true_and, cond_false]
                · simp only [g1, g2, g3, hA, hC, hD, hE, hF, z1, z2, z3, z4, z5, cond_true, Bool.and_true, Bool.and_self, and_true, true_and, eq_self, and_self]
              · skip
                have hh := rl_f0d pages stack types nc rs.length ns data a b c d e f g h rs
                try rw [f0] at hh
                try rw [f1] at hh
                try rw [f2] at hh
                try rw [f3] at hh
                try rw [f4] at hh
                try rw [f5] at hh
                try rw [lenT_eq] at hh
                refine reloc_any hh ?_ ?_
                · rw [hrr, hbh]; unfold relRight; rw [← hor]; simp only [hA, hC, hD, hE, hF, Bool.true_or, Bool.or_true, Bool.not_true, Bool.false_and]
                · simp only [g1, g2, g3, hA, hC, hD, hE, hF, cond_true, Bool.and_true, Bool.and_self, and_true, true_and, eq_self, and_self]
            · skip
              have hh := rl_e0d pages stack types nc rs.length ns data a b c d e f g h rs
              try rw [f0] at hh
              try rw [f1] at hh
              try rw [f2] at hh
              try rw [f3] at hh
              try rw [f4] at hh
              try rw [f5] at hh
              try rw [lenT_eq] at hh
              refine reloc_any hh ?_ ?_
              · rw [hrr, hbh]; unfold relRight; rw [← hor]; simp only [hA, hC, hD, hE, Bool.true_or, Bool.or_true, Bool.not_true, Bool.false_and]
              · simp only [g1, g2, g3, hA, hC, hD, hE, cond_true, Bool.and_true, Bool.and_self, and_true, true_and, eq_self, and_self]
          · skip
            have hh := rl_d0d pages stack types nc rs.length ns data a b c d e f g h rs
            try rw [f0] at hh
            try rw [f1] at hh
            try rw [f2] at hh
            try rw [f3] at hh
            try rw [f4] at hh
            try rw [f5] at hh
            try rw [lenT_eq] at hh
            refine reloc_any hh ?_ ?_
            · rw [hrr, hbh]; unfold relRight; rw [← hor]; simp only [hA, hC, hD, Bool.true_or, Bool.or_true, Bool.not_true, Bool.false_and]
            · simp only [g1, g2, g3, hA, hC, hD, cond_true, Bool.and_true, Bool.and_self, and_true, true_and, eq_self, and_self]
        · skip
          have hh := rl_c0 pages stack types nc rs.length ns data a b c d e f g h rs
          try rw [f0] at hh
          try rw [f1] at hh
          try rw [f2] at hh
          try rw [f3] at hh
          try rw [f4] at hh
          try rw [f5] at hh
          try rw [lenT_eq] at hh
          refine reloc_any hh ?_ ?_
          · rw [hrr, hbh]; unfold relRight; rw [← hor]; simp only [hA, hC, Bool.true_or, Bool.or_true, Bool.not_true, Bool.false_and]
          · simp only [g1, g2, g3, hA, hC, cond_true, Bool.and_true, Bool.and_self, and_true, true_and, eq_self, and_self]
    · skip
      have hh := rl_a0 pages stack types nc rs.length ns data a b c d e f g h rs
      try rw [f0] at hh
      try rw [f1] at hh
      try rw [f2] at hh
      try rw [f3] at hh
      try rw [f4] at hh
      try rw [f5] at hh
      try rw [lenT_eq] at hh
      refine reloc_any hh ?_ ?_
      · rw [hrr, hbh]; unfold relRight; rw [← hor]; simp only [hA, Bool.true_or, Bool.or_true, Bool.not_true, Bool.false_and]
      · simp only [g1, g2, g3, hA, cond_true, Bool.and_true, Bool.and_self, and_true, true_and, eq_self, and_self]
  · have hor := right_or types nc data.length true at_ off size perms typ (4 * nc) 133 0 hr hn hl rfl rfl
    cases hA : ((at_ : Int).tmod 16 != 0)
    · have ha0 : at_ % 16 = 0 := by
        rw [show (16 : Int) = ((16 : Nat) : Int) from rfl, ← Int.ofNat_tmod] at hA; simp only [bne_eq_false_iff_eq] at hA; omega
      have hB0 : decide ((at_ : Int) < ((0 : Nat) : Int)) = false := by simp
      · cases hC : decide (IntKind.u64.wrap (IntKind.u64.wrap (at_ : Int) + 16) > IntKind.u64.wrap (data.length : Int))
        · cases hD : decide (IntKind.u64.wrap (IntKind.u64.wrap (off : Int) + IntKind.u64.wrap (size : Int)) > IntKind.u64.wrap ((4 * nc : Nat) : Int))
          · cases hE : (bits BinOp.andNot IntKind.u16 (perms : Int) 133 != 0)
            · cases hF : decide (IntKind.i64.wrap (typ : Int) > types)
              · have ho : off + size ≤ 16384 := by
                  rw [IntKind.wrap_u64, IntKind.wrap_u64, IntKind.wrap_u64, IntKind.wrap_u64] at hD; have := hr.off; have := hr.size; simp only [decide_eq_false_iff_not] at *; omega
                have e1 : IntKind.u32.wrap ((a : Int) + (off : Int)) = ((a + off : Nat) : Int) := by rw [IntKind.wrap_u32]; omega
                have e2 : IntKind.u64.wrap (IntKind.u64.wrap ((a + off : Nat) : Int) + IntKind.u64.wrap (size : Int)) = ((a + off + size : Nat) : Int) := by rw [IntKind.wrap_u64, IntKind.wrap_u64, IntKind.wrap_u64]; omega
                have z1 : (0 : Int) ≤ ((a + off : Nat) : Int) := by omega
                have z2 : ((a + off : Nat) : Int) < 4294967296 := by omega
                have z3 : (0 : Int) ≤ ((a + off + size : Nat) : Int) := by omega
                have z4 : ((a + off + size : Nat) : Int) < 18446744073709551616 := by omega
                have z5 : rightN (a + off) (a + off + size) = true := by unfold rightN; simp; omega
                have hh := rl_g0c pages stack types nc rs.length ns data a b c d e f g h rs
                try rw [f0] at hh
                try rw [f1] at hh
                try rw [f2] at hh
                try rw [f3] at hh
                try rw [f4] at hh
                try rw [f5] at hh
                try rw [lenT_eq] at hh
                try rw [hb4] at hh
                rw [e1, e2, Int.toNat_natCast, Int.toNat_natCast] at hh
                refine reloc_any hh ?_ ?_
                · rw [hrr, hbh]; unfold relRight; rw [← hor]; simp only [hA, hC, hD, hE, hF, hB0, Bool.or_false, Bool.not_false, Bool.true_and, cond_true]
                · simp only [g1, g2, g3, hA, hC, hD, hE, hF, z1, z2, z3, z4, z5, cond_true, Bool.and_true, Bool.and_self, and_true, true_and, eq_self, and_self]
              · skip
                have hh := rl_f0c pages stack types nc rs.length ns data a b c d e f g h rs
                try rw [f0] at hh
                try rw [f1] at hh
                try rw [f2] at hh
                try rw [f3] at hh
                try rw [f4] at hh
                try rw [f5] at hh
                try rw [lenT_eq] at hh
                try rw [hb4] at hh
                refine reloc_any hh ?_ ?_
                · rw [hrr, hbh]; unfold relRight; rw [← hor]; simp only [hA, hC, hD, hE, hF, Bool.true_or, Bool.or_true, Bool.not_true, Bool.false_and]
                · simp only [g1, g2, g3, hA, hC, hD, hE, hF, cond_true, Bool.and_true, Bool.and_self, and_true, true_and, eq_self, and_self]
            · skip
              have hh := rl_e0c pages stack types nc rs.length ns data a b c d e f g h rs
              try rw [f0] at hh
              try rw [f1] at hh
              try rw [f2] at hh
              try rw [f3] at hh
              try rw [f4] at hh
              try rw [f5] at hh
              try rw [lenT_eq] at hh
              try rw [hb4] at hh
              refine reloc_any hh ?_ ?_
              · rw [hrr, hbh]; unfold relRight; rw [← hor]; simp only [hA, hC, hD, hE, Bool.true_or, Bool.or_true, Bool.not_true, Bool.false_and]
              · simp only [g1, g2, g3, hA, hC, hD, hE, cond_true, Bool.and_true, Bool.and_self, and_true, true_and, eq_self, and_self]
          · skip
            have hh := rl_d0c pages stack types nc rs.length ns data a b c d e f g h rs
            try rw [f0] at hh
            try rw [f1] at hh
            try rw [f2] at hh
            try rw [f3] at hh
            try rw [f4] at hh
            try rw [f5] at hh
            try rw [lenT_eq] at hh
            try rw [hb4] at hh
            refine reloc_any hh ?_ ?_
            · rw [hrr, hbh]; unfold relRight; rw [← hor]; simp only [hA, hC, hD, Bool.true_or, Bool.or_true, Bool.not_true, Bool.false_and]
            · simp only [g1, g2, g3, hA, hC, hD, cond_true, Bool.and_true, Bool.and_self, and_true, true_and, eq_self, and_self]
        · skip
          have hh := rl_c0 pages stack types nc rs.length ns data a b c d e f g h rs
          try rw [f0] at hh
          try rw [f1] at hh
          try rw [f2] at hh
          try rw [f3] at hh
          try rw [f4] at hh
          try rw [f5] at hh
          try rw [lenT_eq] at hh
          try rw [hb4] at hh
          refine reloc_any hh ?_ ?_
          · rw [hrr, hbh]; unfold relRight; rw [← hor]; simp only [hA, hC, Bool.true_or, Bool.or_true, Bool.not_true, Bool.false_and]
          · simp only [g1, g2, g3, hA, hC, cond_true, Bool.and_true, Bool.and_self, and_true, true_and, eq_self, and_self]
    · skip
      have hh := rl_a0 pages stack types nc rs.length ns data a b c d e f g h rs
      try rw [f0] at hh
      try rw [f1] at hh
      try rw [f2] at hh
      try rw [f3] at hh
      try rw [f4] at hh
      try rw [f5] at hh
      try rw [lenT_eq] at hh
      try rw [hb4] at hh
      refine reloc_any hh ?_ ?_
      · rw [hrr, hbh]; unfold relRight; rw [← hor]; simp only [hA, Bool.true_or, Bool.or_true, Bool.not_true, Bool.false_and]
      · simp only [g1, g2, g3, hA, cond_true, Bool.and_true, Bool.and_self, and_true, true_and, eq_self, and_self]
theorem reloc_1 (pages stack types : Int) (nc ns : Nat) (data : List UInt8) (a : Nat) (b : Int) (c : Nat) (d e f g h : Int) (rs : List Rl) (k : Nat) (hq : relocOk nc data.length a c rs (k + 1)) : ConOk Try.prog 30 3 (relocC pages stack types nc ns data a b c d e f g h rs (k + 1)) := by
  obtain ⟨⟨hr, hn, hl, ha, hc⟩, hk, hm, hp⟩ := hq
  rcases hrr : rl0 rs (k + 1) with ⟨at_, code, off, size, perms, typ⟩
  rw [hrr] at hr
  have f0 : intOf' (getD' undef (rels rs) (0 + (((k + 1 : Nat) : Int)).toNat * 6)) = (at_ : Int) := by
    rw [Int.toNat_natCast, Nat.zero_add]; have := rels_0 hk; rw [hrr] at this; exact this
  have f1 : boolOf' (getD' undef (rels rs) (0 + (((k + 1 : Nat) : Int)).toNat * 6 + 1)) = code := by
    rw [Int.toNat_natCast, Nat.zero_add]; have := rels_1 hk; rw [hrr] at this; exact this
  have f2 : intOf' (getD' undef (rels rs) (0 + (((k + 1 : Nat) : Int)).toNat * 6 + 1 + 1)) = (off : Int) := by
    rw [Int.toNat_natCast, Nat.zero_add]; have := rels_2 hk; rw [hrr] at this; exact this
  have f3 : intOf' (getD' undef (rels rs) (0 + (((k + 1 : Nat) : Int)).toNat * 6 + 1 + 1 + 1)) = (size : Int) := by
    rw [Int.toNat_natCast, Nat.zero_add]; have := rels_3 hk; rw [hrr] at this; exact this
  have f4 : intOf' (getD' undef (rels rs) (0 + (((k + 1 : Nat) : Int)).toNat * 6 + 1 + 1 + 1 + 1)) = (perms : Int) := by
    rw [Int.toNat_natCast, Nat.zero_add]; have := rels_4 hk; rw [hrr] at this; exact this
  have f5 : intOf' (getD' undef (rels rs) (0 + (((k + 1 : Nat) : Int)).toNat * 6 + 1 + 1 + 1 + 1 + 1)) = (typ : Int) := by
    rw [Int.toNat_natCast, Nat.zero_add]; have := rels_5 hk; rw [hrr] at this; exact this
  have hw : IntKind.i64.wrap (((k + 1 : Nat) : Int) - 1) = (k : Int) := by rw [wrap_i64 (by omega) (by omega)]; omega
  have hx : decide (((k + 1 : Nat) : Int) > 0) = true := by rw [decide_eq_true_eq]; omega
  have g1 : hasN (0 + (((k + 1 : Nat) : Int)).toNat * 6 + 6) (rels rs) = true := by rw [rels_has, Int.toNat_natCast]; simp; omega
  have g2 : isLikeL [Value.int IntKind.u32 (0 : Int), Value.bool false, Value.int IntKind.u32 (0 : Int), Value.int IntKind.u32 (0 : Int), Value.int IntKind.u16 (0 : Int), Value.int IntKind.u16 (0 : Int)] (rels rs) (0 + (((k + 1 : Nat) : Int)).toNat * 6) = true := by rw [Int.toNat_natCast, Nat.zero_add]; exact rels_like hk _ _ _ _ _ _
  have g3 : hasN (0 + (k : Int).toNat * 6 + 0 + 1) (rels rs) = true := by rw [rels_has, Int.toNat_natCast]; simp; omega
  have g4 : isLikeL [Value.int IntKind.u32 (0 : Int)] (rels rs) (0 + (k : Int).toNat * 6 + 0) = true := by rw [Int.toNat_natCast, Nat.zero_add, Nat.add_zero]; exact rels_like1 (by omega) _
  have g5 : decide ((0 : Int) ≤ ((k + 1 : Nat) : Int)) = true := by simp; omega
  have g6 : decide (((k + 1 : Nat) : Int) < (rs.length : Int)) = true := by simp; omega
  have g7 : decide ((0 : Int) ≤ (k : Int)) = true := by simp
  have g8 : decide ((k : Int) < (rs.length : Int)) = true := by simp; omega
  have fp : intOf' (getD' undef (rels rs) (0 + (k : Int).toNat * 6 + 0)) = ((rl0 rs k).at_ : Int) := by rw [Int.toNat_natCast, Nat.zero_add, Nat.add_zero]; exact rels_0 (by omega)
  have hb4 : IntKind.u64.wrap ((4 : Int) * IntKind.u64.wrap (nc : Int)) = IntKind.u64.wrap ((4 * nc : Nat) : Int) := by rw [IntKind.wrap_u64, IntKind.wrap_u64, IntKind.wrap_u64]; omega
  have hbh : behindN rs (k + 1) = (rl0 rs k).at_ + 16 := rfl
  cases code
  · have hor := right_or types nc data.length false at_ off size perms typ data.length 155 ((rl0 rs k).at_ + 16) hr hn hl rfl rfl
    cases hA : ((at_ : Int).tmod 16 != 0)
    · have ha0 : at_ % 16 = 0 := by
        rw [show (16 : Int) = ((16 : Nat) : Int) from rfl, ← Int.ofNat_tmod] at hA; simp only [bne_eq_false_iff_eq] at hA; omega
      have hBB : decide ((at_ : Int) < (((rl0 rs k).at_ + 16 : Nat) : Int)) = decide (((rl0 rs k).at_ : Int) ≥ (at_ : Int)) := by
        have := hp.1; rw [Bool.eq_iff_iff]; simp only [decide_eq_true_eq]; omega
      cases hB : decide (((rl0 rs k).at_ : Int) ≥ (at_ : Int))
      · cases hC : decide (IntKind.u64.wrap (IntKind.u64.wrap (at_ : Int) + 16) > IntKind.u64.wrap (data.length : Int))
        · cases hD : decide (IntKind.u64.wrap (IntKind.u64.wrap (off : Int) + IntKind.u64.wrap (size : Int)) > IntKind.u64.wrap (data.length : Int))
          · cases hE : (bits BinOp.andNot IntKind.u16 (perms : Int) 155 != 0)
            · cases hF : decide (IntKind.i64.wrap (typ : Int) > types)
              · have ho : off + size ≤ 16384 := by
                  rw [IntKind.wrap_u64, IntKind.wrap_u64, IntKind.wrap_u64, IntKind.wrap_u64] at hD; have := hr.off; have := hr.size; simp only [decide_eq_false_iff_not] at *; omega
                have e1 : IntKind.u32.wrap ((c : Int) + (off : Int)) = ((c + off : Nat) : Int) := by rw [IntKind.wrap_u32]; omega
                have e2 : IntKind.u64.wrap (IntKind.u64.wrap ((c + off : Nat) : Int) + IntKind.u64.wrap (size : Int)) = ((c + off + size : Nat) : Int) := by rw [IntKind.wrap_u64, IntKind.wrap_u64, IntKind.wrap_u64]; omega
                have z1 : (0 : Int) ≤ ((c + off : Nat) : Int) := by omega
                have z2 : ((c + off : Nat) : Int) < 4294967296 := by omega
                have z3 : (0 : Int) ≤ ((c + off + size : Nat) : Int) := by omega
                have z4 : ((c + off + size : Nat) : Int) < 18446744073709551616 := by omega
                have z5 : rightN (c + off) (c + off + size) = true := by unfold rightN; simp; omega
                have hh := rl_g1d pages stack types nc rs.length ns data a b c d e f g h rs ((k + 1 : Nat) : Int)
                try rw [hw] at hh
                try rw [fp] at hh
                try rw [f0] at hh
                try rw [f1] at hh
                try rw [f2] at hh
                try rw [f3] at hh
                try rw [f4] at hh
                try rw [f5] at hh
                try rw [lenT_eq] at hh
                rw [e1, e2, Int.toNat_natCast, Int.toNat_natCast] at hh
                refine reloc_any hh ?_ ?_
                · rw [hrr, hbh]; unfold relRight; rw [← hor]; simp only [hA, hB, hC, hD, hE, hF, hBB, Bool.or_false, Bool.not_false, Bool.true_and, cond_false]
                · simp only [hx, g1, g2, g3, g4, g5, g6, g7, g8, hA, hB, hC, hD, hE, hF, z1, z2, z3, z4, z5, cond_true, Bool.and_true, Bool.and_self, and_true, true_and, eq_self, and_self]
              · skip
                have hh := rl_f1d pages stack types nc rs.length ns data a b c d e f g h rs ((k + 1 : Nat) : Int)
                try rw [hw] at hh
                try rw [fp] at hh
                try rw [f0] at hh
                try rw [f1] at hh
                try rw [f2] at hh
                try rw [f3] at hh
                try rw [f4] at hh
                try rw [f5] at hh
                try rw [lenT_eq] at hh
                refine reloc_any hh ?_ ?_
                · rw [hrr, hbh]; unfold relRight; rw [← hor]; simp only [hA, hB, hC, hD, hE, hF, hBB, Bool.true_or, Bool.or_true, Bool.not_true, Bool.false_and]
                · simp only [hx, g1, g2, g3, g4, g5, g6, g7, g8, hA, hB, hC, hD, hE, hF, cond_true, Bool.and_true, Bool.and_self, and_true, true_and, eq_self, and_self]
            · skip
              have hh := rl_e1d pages stack types nc rs.length ns data a b c d e f g h rs ((k + 1 : Nat) : Int)
              try rw [hw] at hh
              try rw [fp] at hh
              try rw [f0] at hh
              try rw [f1] at hh
              try rw [f2] at hh
              try rw [f3] at hh
              try rw [f4] at hh
              try rw [f5] at hh
              try rw [lenT_eq] at hh
              refine reloc_any hh ?_ ?_
              · rw [hrr, hbh]; unfold relRight; rw [← hor]; simp only [hA, hB, hC, hD, hE, hBB, Bool.true_or, Bool.or_true, Bool.not_true, Bool.false_and]
              · simp only [hx, g1, g2, g3, g4, g5, g6, g7, g8, hA, hB, hC, hD, hE, cond_true, Bool.and_true, Bool.and_self, and_true, true_and, eq_self, and_self]
          · skip
            have hh := rl_d1d pages stack types nc rs.length ns data a b c d e f g h rs ((k + 1 : Nat) : Int)
            try rw [hw] at hh
            try rw [fp] at hh
            try rw [f0] at hh
            try rw [f1] at hh
            try rw [f2] at hh
            try rw [f3] at hh
            try rw [f4] at hh
            try rw [f5] at hh
            try rw [lenT_eq] at hh
            refine reloc_any hh ?_ ?_
            · rw [hrr, hbh]; unfold relRight; rw [← hor]; simp only [hA, hB, hC, hD, hBB, Bool.true_or, Bool.or_true, Bool.not_true, Bool.false_and]
            · simp only [hx, g1, g2, g3, g4, g5, g6, g7, g8, hA, hB, hC, hD, cond_true, Bool.and_true, Bool.and_self, and_true, true_and, eq_self, and_self]
        · skip
          have hh := rl_c1 pages stack types nc rs.length ns data a b c d e f g h rs ((k + 1 : Nat) : Int)
          try rw [hw] at hh
          try rw [fp] at hh
          try rw [f0] at hh
          try rw [f1] at hh
          try rw [f2] at hh
          try rw [f3] at hh
          try rw [f4] at hh
          try rw [f5] at hh
          try rw [lenT_eq] at hh
          refine reloc_any hh ?_ ?_
          · rw [hrr, hbh]; unfold relRight; rw [← hor]; simp only [hA, hB, hC, hBB, Bool.true_or, Bool.or_true, Bool.not_true, Bool.false_and]
          · simp only [hx, g1, g2, g3, g4, g5, g6, g7, g8, hA, hB, hC, cond_true, Bool.and_true, Bool.and_self, and_true, true_and, eq_self, and_self]
      · skip
        have hh := rl_b1 pages stack types nc rs.length ns data a b c d e f g h rs ((k + 1 : Nat) : Int)
        try rw [hw] at hh
        try rw [fp] at hh
        try rw [f0] at hh
        try rw [f1] at hh
        try rw [f2] at hh
        try rw [f3] at hh
        try rw [f4] at hh
        try rw [f5] at hh
        try rw [lenT_eq] at hh
        refine reloc_any hh ?_ ?_
        · rw [hrr, hbh]; unfold relRight; rw [← hor]; simp only [hA, hB, hBB, Bool.true_or, Bool.or_true, Bool.not_true, Bool.false_and]
        · simp only [hx, g1, g2, g3, g4, g5, g6, g7, g8, hA, hB, cond_true, Bool.and_true, Bool.and_self, and_true, true_and, eq_self, and_self]
    · skip
      have hh := rl_a1 pages stack types nc rs.length ns data a b c d e f g h rs ((k + 1 : Nat) : Int)
      try rw [hw] at hh
      try rw [fp] at hh
      try rw [f0] at hh
      try rw [f1] at hh
      try rw [f2] at hh
      try rw [f3] at hh
      try rw [f4] at hh
      try rw [f5] at hh
      try rw [lenT_eq] at hh
      refine reloc_any hh ?_ ?_
      · rw [hrr, hbh]; unfold relRight; rw [← hor]; simp only [hA, Bool.true_or, Bool.or_true, Bool.not_true, Bool.false_and]
      · simp only [hx, g1, g2, g3, g4, g5, g6, g7, g8, hA, cond_true, Bool.and_true, Bool.and_self, and_true, true_and, eq_self, and_self]
  · have hor := right_or types nc data.length true at_ off size perms typ (4 * nc) 133 ((rl0 rs k).at_ + 16) hr hn hl rfl rfl
    cases hA : ((at_ : Int).tmod 16 != 0)
    · have ha0 : at_ % 16 = 0 := by
        rw [show (16 : Int) = ((16 : Nat) : Int) from rfl, ← Int.ofNat_tmod] at hA; simp only [bne_eq_false_iff_eq] at hA; omega
      have hBB : decide ((at_ : Int) < (((rl0 rs k).at_ + 16 : Nat) : Int)) = decide (((rl0 rs k).at_ : Int) ≥ (at_ : Int)) := by
        have := hp.1; rw [Bool.eq_iff_iff]; simp only [decide_eq_true_eq]; omega
      cases hB : decide (((rl0 rs k).at_ : Int) ≥ (at_ : Int))
      · cases hC : decide (IntKind.u64.wrap (IntKind.u64.wrap (at_ : Int) + 16) > IntKind.u64.wrap (data.length : Int))
        · cases hD : decide (IntKind.u64.wrap (IntKind.u64.wrap (off : Int) + IntKind.u64.wrap (size : Int)) > IntKind.u64.wrap ((4 * nc : Nat) : Int))
          · cases hE : (bits BinOp.andNot IntKind.u16 (perms : Int) 133 != 0)
            · cases hF : decide (IntKind.i64.wrap (typ : Int) > types)
              · have ho : off + size ≤ 16384 := by
                  rw [IntKind.wrap_u64, IntKind.wrap_u64, IntKind.wrap_u64, IntKind.wrap_u64] at hD; have := hr.off; have := hr.size; simp only [decide_eq_false_iff_not] at *; omega
                have e1 : IntKind.u32.wrap ((a : Int) + (off : Int)) = ((a + off : Nat) : Int) := by rw [IntKind.wrap_u32]; omega
                have e2 : IntKind.u64.wrap (IntKind.u64.wrap ((a + off : Nat) : Int) + IntKind.u64.wrap (size : Int)) = ((a + off + size : Nat) : Int) := by rw [IntKind.wrap_u64, IntKind.wrap_u64, IntKind.wrap_u64]; omega
                have z1 : (0 : Int) ≤ ((a + off : Nat) : Int) := by omega
                have z2 : ((a + off : Nat) : Int) < 4294967296 := by omega
                have z3 : (0 : Int) ≤ ((a + off + size : Nat) : Int) := by omega
                have z4 : ((a + off + size : Nat) : Int) < 18446744073709551616 := by omega
                have z5 : rightN (a + off) (a + off + size) = true := by unfold rightN; simp; omega
                have hh := rl_g1c pages stack types nc rs.length ns data a b c d e f g h rs ((k + 1 : Nat) : Int)
                try rw [hw] at hh
                try rw [fp] at hh
                try rw [f0] at hh
                try rw [f1] at hh
                try rw [f2] at hh
                try rw [f3] at hh
                try rw [f4] at hh
                try rw [f5] at hh
                try rw [lenT_eq] at hh
                try rw [hb4] at hh
                rw [e1, e2, Int.toNat_natCast, Int.toNat_natCast] at hh
                refine reloc_any hh ?_ ?_
                · rw [hrr, hbh]; unfold relRight; rw [← hor]; simp only [hA, hB, hC, hD, hE, hF, hBB, Bool.or_false, Bool.not_false, Bool.true_and, cond_true]
                · simp only [hx, g1, g2, g3, g4, g5, g6, g7, g8, hA, hB, hC, hD, hE, hF, z1, z2, z3, z4, z5, cond_true, Bool.and_true, Bool.and_self, and_true, true_and, eq_self, and_self]
              · skip
                have hh := rl_f1c pages stack types nc rs.length ns data a b c d e f g h rs ((k + 1 : Nat) : Int)
                try rw [hw] at hh
                try rw [fp] at hh
                try rw [f0] at hh
                try rw [f1] at hh
                try rw [f2] at hh
                try rw [f3] at hh
                try rw [f4] at hh
                try rw [f5] at hh
                try rw [lenT_eq] at hh
                try rw [hb4] at hh
                refine reloc_any hh ?_ ?_
                · rw [hrr, hbh]; unfold relRight; rw [← hor]; simp only [hA, hB, hC, hD, hE, hF, hBB, Bool.true_or, Bool.or_true, Bool.not_true, Bool.false_and]
                · simp only [hx, g1, g2, g3, g4, g5, g6, g7, g8, hA, hB, hC, hD, hE, hF, cond_true, Bool.and_true, Bool.and_self, and_true, true_and, eq_self, and_self]
            · skip
              have hh := rl_e1c pages stack types nc rs.length ns data a b c d e f g h rs ((k + 1 : Nat) : Int)
              try rw [hw] at hh
              try rw [fp] at hh
              try rw [f0] at hh
              try rw [f1] at hh
              try rw [f2] at hh
              try rw [f3] at hh
              try rw [f4] at hh
              try rw [f5] at hh
              try rw [lenT_eq] at hh
              try rw [hb4] at hh
              refine reloc_any hh ?_ ?_
              · rw [hrr, hbh]; unfold relRight; rw [← hor]; simp only [hA, hB, hC, hD, hE, hBB, Bool.true_or, Bool.or_true, Bool.not_true, Bool.false_and]
              · simp only [hx, g1, g2, g3, g4, g5, g6, g7, g8, hA, hB, hC, hD, hE, cond_true, Bool.and_true, Bool.and_self, and_true, true_and, eq_self, and_self]
          · skip
            have hh := rl_d1c pages stack types nc rs.length ns data a b c d e f g h rs ((k + 1 : Nat) : Int)
            try rw [hw] at hh
            try rw [fp] at hh
            try rw [f0] at hh
            try rw [f1] at hh
            try rw [f2] at hh
            try rw [f3] at hh
            try rw [f4] at hh
            try rw [f5] at hh
            try rw [lenT_eq] at hh
            try rw [hb4] at hh
            refine reloc_any hh ?_ ?_
            · rw [hrr, hbh]; unfold relRight; rw [← hor]; simp only [hA, hB, hC, hD, hBB, Bool.true_or, Bool.or_true, Bool.not_true, Bool.false_and]
            · simp only [hx, g1, g2, g3, g4, g5, g6, g7, g8, hA, hB, hC, hD, cond_true, Bool.and_true, Bool.and_self, and_true, true_and, eq_self, and_self]
        · skip
          have hh := rl_c1 pages stack types nc rs.length ns data a b c d e f g h rs ((k + 1 : Nat) : Int)
          try rw [hw] at hh
          try rw [fp] at hh
          try rw [f0] at hh
          try rw [f1] at hh
          try rw [f2] at hh
          try rw [f3] at hh
          try rw [f4] at hh
          try rw [f5] at hh
          try rw [lenT_eq] at hh
          try rw [hb4] at hh
          refine reloc_any hh ?_ ?_
          · rw [hrr, hbh]; unfold relRight; rw [← hor]; simp only [hA, hB, hC, hBB, Bool.true_or, Bool.or_true, Bool.not_true, Bool.false_and]
          · simp only [hx, g1, g2, g3, g4, g5, g6, g7, g8, hA, hB, hC, cond_true, Bool.and_true, Bool.and_self, and_true, true_and, eq_self, and_self]
      · skip
        have hh := rl_b1 pages stack types nc rs.length ns data a b c d e f g h rs ((k + 1 : Nat) : Int)
        try rw [hw] at hh
        try rw [fp] at hh
        try rw [f0] at hh
        try rw [f1] at hh
        try rw [f2] at hh
        try rw [f3] at hh
        try rw [f4] at hh
        try rw [f5] at hh
        try rw [lenT_eq] at hh
        try rw [hb4] at hh
        refine reloc_any hh ?_ ?_
        · rw [hrr, hbh]; unfold relRight; rw [← hor]; simp only [hA, hB, hBB, Bool.true_or, Bool.or_true, Bool.not_true, Bool.false_and]
        · simp only [hx, g1, g2, g3, g4, g5, g6, g7, g8, hA, hB, cond_true, Bool.and_true, Bool.and_self, and_true, true_and, eq_self, and_self]
    · skip
      have hh := rl_a1 pages stack types nc rs.length ns data a b c d e f g h rs ((k + 1 : Nat) : Int)
      try rw [hw] at hh
      try rw [fp] at hh
      try rw [f0] at hh
      try rw [f1] at hh
      try rw [f2] at hh
      try rw [f3] at hh
      try rw [f4] at hh
      try rw [f5] at hh
      try rw [lenT_eq] at hh
      try rw [hb4] at hh
      refine reloc_any hh ?_ ?_
      · rw [hrr, hbh]; unfold relRight; rw [← hor]; simp only [hA, Bool.true_or, Bool.or_true, Bool.not_true, Bool.false_and]
      · simp only [hx, g1, g2, g3, g4, g5, g6, g7, g8, hA, cond_true, Bool.and_true, Bool.and_self, and_true, true_and, eq_self, and_self]
end Go.Proofs.Ytdljpnebpoaeiaa
namespace Go.Proofs.Ytdljpnebpoaeiaa
set_option linter.unusedVariables false
set_option linter.unusedSimpArgs false
open Go.RowKit
open Sy
def relsOf : List Value → List Rl
  | a :: b :: c :: d :: e :: f :: l => ⟨(intOf' a).toNat, boolOf' b, (intOf' c).toNat, (intOf' d).toNat, (intOf' e).toNat, (intOf' f).toNat⟩ :: relsOf l
  | _ => []
def selRight : SelC := fun f args _ =>
  match args with
  | [.agg ⟨[.int _ pages, .int _ stack, .int _ types, .slice (some i) nc _, .string ⟨⟨data⟩⟩, .slice (some j) nr _, .slice (some k) ns _]⟩, .agg ⟨[.int _ a, .int _ b, .int _ c, .int _ d, .int _ e, .int _ g, .int _ h, .int _ m]⟩, .agg ⟨[.int _ x, .bool code, .int _ off, .int _ size, .int _ perms, .int _ typ]⟩, .int _ behind] =>
    bif Nat.beq f 27 then some (rightC pages stack types nc nr ns data a.toNat b c.toNat d e g h m ⟨x.toNat, code, off.toNat, size.toNat, perms.toNat, typ.toNat⟩ behind.toNat, [i.block, j.block, k.block], rightOk nc data.length a.toNat c.toNat ⟨x.toNat, code, off.toNat, size.toNat, perms.toNat, typ.toNat⟩) else none
  | _ => none
theorem selRight_ok : SelOk Try.prog 3 selRight := by
  intro f args s c ρ q h hq
  unfold selRight at h
  split at h
  · obtain ⟨h2, h⟩ := bif_some h
    have h2 := Nat.eq_of_beq_eq_true h2
    subst h2
    cases h
    exact right_prog _ _ _ _ _ _ _ _ _ _ _ _ _ _ _ _ _ hq
  · cases h
theorem reloc_ref (pages stack types : Int) (nc ns : Nat) (data : List UInt8) (a : Nat) (b : Int) (c : Nat) (d e f g h : Int) (rs : List Rl) (k : Nat) (hq : relocOk nc data.length a c rs k) : ConOk Try.prog 30 3 (relocC pages stack types nc ns data a b c d e f g h rs k) := by
  cases k with
  | zero => exact reloc_0 pages stack types nc ns data a b c d e f g h rs hq
  | succ k => exact reloc_1 pages stack types nc ns data a b c d e f g h rs k hq
def selReloc : SelC := fun f args s =>
  match args with
  | [.agg ⟨[.int _ pages, .int _ stack, .int _ types, .slice (some i) nc _, .string ⟨⟨data⟩⟩, .slice (some j) _ _, .slice (some k) ns _]⟩, .agg ⟨[.int _ a, .int _ b, .int _ c, .int _ d, .int _ e, .int _ g, .int _ h, .int _ m]⟩, .int _ x] =>
    bif Nat.beq f 30 then (Sy.look s.h j.block).map fun bk => (relocC pages stack types nc ns data a.toNat b c.toNat d e g h m (relsOf bk.cells) x.toNat, [i.block, j.block, k.block], relocOk nc data.length a.toNat c.toNat (relsOf bk.cells) x.toNat) else none
  | _ => none
theorem selReloc_ok : SelOk Try.prog 3 selReloc := by
  intro f args s c ρ q h hq
  unfold selReloc at h
  split at h
  · obtain ⟨h2, h⟩ := bif_some h
    have h2 := Nat.eq_of_beq_eq_true h2
    subst h2
    obtain ⟨bk, _, h⟩ := Option.map_eq_some_iff.1 h
    cases h
    exact reloc_ref _ _ _ _ _ _ _ _ _ _ _ _ _ _ _ _ hq
  · cases h
def selL : SelC := selOr selRight (selOr selReloc selK)
theorem selL_ok : SelOk Try.prog 3 selL := selOr_ok selRight_ok (selOr_ok selReloc_ok selK_ok)
end Go.Proofs.Ytdljpnebpoaeiaa
namespace Go.Proofs.Ytdljpnebpoaeiaa
set_option linter.unusedVariables false
set_option linter.unusedSimpArgs false
open Go.RowKit
open Sy
theorem st_a (pages : Int) (stack : Int) (types : Int) (nc : Nat) (nr : Nat) (data : List UInt8) (starts : List Nat) (k : Nat) : evC Try.prog (evF Try.prog noBase noLoop 100 3) (noLoop 50) 19 100 (loopOf Try.prog 50 0) (Sf.frT 19 (stI pages stack types nc nr data starts k) [(0, true), (1, true)]) = some (Exit.ret, { e := [[Value.slice (some { block := 66, off := 0 }) starts.length 9223372036854775874, Value.func (Fn.func 25) { toList := [] } { toList := [Value.pointer (some { block := 67, off := 0 })] }, unk, unk, Value.int IntKind.i64 (↑k : Int), Value.int IntKind.i64 (↑k : Int), unk, Value.int IntKind.i64 (↑starts.length : Int), Value.int IntKind.i64 (↑k : Int), Value.bool (decide ((↑k : Int) < (↑starts.length : Int))), Value.int IntKind.i64 (↑k : Int), Value.func (Fn.func 25) { toList := [] } { toList := [Value.pointer (some { block := 67, off := 0 })] }, Value.slice (some { block := 66, off := 0 }) starts.length 9223372036854775874, Value.int IntKind.i64 (↑k : Int), Value.pointer (some { block := 66, off := 0 + (↑k : Int).toNat * 1 }), Value.int IntKind.u32 (intOf' (getD' undef (u32s starts) (0 + (↑k : Int).toNat * 1)))], [Value.bool (decide (IntKind.i64.wrap (intOf' (getD' undef (u32s starts) (0 + (↑k : Int).toNat * 1))) ≥ (↑nc : Int))), Value.int IntKind.i64 (↑k : Int), unk, unk, unk, unk, unk, unk, unk, unk, unk, unk, unk, unk, unk, unk]], s := { n := 71, h := [(66, { rw := false, op := some (0, 0), cells := u32s starts, it := none : Sy.Blk }), (67, { rw := false, op := none, cells := [Value.int IntKind.i64 pages, Value.int IntKind.i64 stack, Value.int IntKind.i64 types, Value.slice (some { block := 64, off := 0 }) nc 9223372036854775872, Value.string { data := { toList := data : Array UInt8 } : ByteArray }, Value.slice (some { block := 65, off := 0 }) nr 9223372036854775873, Value.slice (some { block := 66, off := 0 }) starts.length 9223372036854775874], it := none : Sy.Blk })], lo := [], esc := 0, T := [], k := 2, O := (bif hasN (0 + (↑k : Int).toNat * 1 + 1) (u32s starts) && isLikeL [Value.int IntKind.u32 (0 : Int)] (u32s starts) (0 + (↑k : Int).toNat * 1) then bif decide ((0 : Int) ≤ (↑k : Int)) && decide ((↑k : Int) < (↑starts.length : Int)) then True ∧ decide ((↑k : Int) < (↑starts.length : Int)) = true else False else False) ∧ decide (IntKind.i64.wrap (intOf' (getD' undef (u32s starts) (0 + (↑k : Int).toNat * 1))) ≥ (↑nc : Int)) = true : St } : Fr }) := by kernel_rfl
theorem st_b (pages : Int) (stack : Int) (types : Int) (nc : Nat) (nr : Nat) (data : List UInt8) (starts : List Nat) (k : Nat) : evC Try.prog (evF Try.prog noBase noLoop 100 3) (noLoop 50) 19 100 (loopOf Try.prog 50 0) (Sf.frT 19 (stI pages stack types nc nr data starts k) [(0, true), (1, false)]) = some (Exit.normal, { e := [[Value.slice (some { block := 66, off := 0 }) starts.length 9223372036854775874, Value.func (Fn.func 25) { toList := [] } { toList := [Value.pointer (some { block := 67, off := 0 })] }, unk, unk, unk, Value.int IntKind.i64 (↑k : Int), unk, Value.int IntKind.i64 (↑starts.length : Int), Value.int IntKind.i64 (IntKind.i64.wrap ((↑k : Int) + (1 : Int))), Value.bool (decide ((↑k : Int) < (↑starts.length : Int))), Value.int IntKind.i64 (↑k : Int), Value.func (Fn.func 25) { toList := [] } { toList := [Value.pointer (some { block := 67, off := 0 })] }, Value.slice (some { block := 66, off := 0 }) starts.length 9223372036854775874, Value.int IntKind.i64 (↑k : Int), Value.pointer (some { block := 66, off := 0 + (↑k : Int).toNat * 1 }), Value.int IntKind.u32 (intOf' (getD' undef (u32s starts) (0 + (↑k : Int).toNat * 1)))], [Value.bool (decide (IntKind.i64.wrap (intOf' (getD' undef (u32s starts) (0 + (↑k : Int).toNat * 1))) ≥ (↑nc : Int))), unk, Value.int IntKind.i64 (IntKind.i64.wrap ((↑k : Int) + (1 : Int))), unk, unk, unk, unk, unk, unk, unk, unk, unk, unk, unk, unk, unk]], s := { n := 71, h := [(66, { rw := false, op := some (0, 0), cells := u32s starts, it := none : Sy.Blk }), (67, { rw := false, op := none, cells := [Value.int IntKind.i64 pages, Value.int IntKind.i64 stack, Value.int IntKind.i64 types, Value.slice (some { block := 64, off := 0 }) nc 9223372036854775872, Value.string { data := { toList := data : Array UInt8 } : ByteArray }, Value.slice (some { block := 65, off := 0 }) nr 9223372036854775873, Value.slice (some { block := 66, off := 0 }) starts.length 9223372036854775874], it := none : Sy.Blk })], lo := [], esc := 0, T := [], k := 2, O := (bif hasN (0 + (↑k : Int).toNat * 1 + 1) (u32s starts) && isLikeL [Value.int IntKind.u32 (0 : Int)] (u32s starts) (0 + (↑k : Int).toNat * 1) then bif decide ((0 : Int) ≤ (↑k : Int)) && decide ((↑k : Int) < (↑starts.length : Int)) then True ∧ decide ((↑k : Int) < (↑starts.length : Int)) = true else False else False) ∧ decide (IntKind.i64.wrap (intOf' (getD' undef (u32s starts) (0 + (↑k : Int).toNat * 1))) ≥ (↑nc : Int)) = false : St } : Fr }) := by kernel_rfl
theorem st_c (pages : Int) (stack : Int) (types : Int) (nc : Nat) (nr : Nat) (data : List UInt8) (starts : List Nat) (k : Nat) : evC Try.prog (evF Try.prog noBase noLoop 100 3) (noLoop 50) 19 100 (loopOf Try.prog 50 0) (Sf.frT 19 (stI pages stack types nc nr data starts k) [(0, false)]) = some (Exit.exit 0, { e := [[Value.slice (some { block := 66, off := 0 }) starts.length 9223372036854775874, Value.func (Fn.func 25) { toList := [] } { toList := [Value.pointer (some { block := 67, off := 0 })] }, unk, unk, unk, unk, unk, Value.int IntKind.i64 (↑starts.length : Int), Value.int IntKind.i64 (↑k : Int), Value.bool (decide ((↑k : Int) < (↑starts.length : Int))), unk, unk, unk, unk, unk, unk], [unk, unk, unk, unk, unk, unk, unk, unk, unk, unk, unk, unk, unk, unk, unk, unk]], s := { n := 71, h := [(66, { rw := false, op := some (0, 0), cells := u32s starts, it := none : Sy.Blk }), (67, { rw := false, op := none, cells := [Value.int IntKind.i64 pages, Value.int IntKind.i64 stack, Value.int IntKind.i64 types, Value.slice (some { block := 64, off := 0 }) nc 9223372036854775872, Value.string { data := { toList := data : Array UInt8 } : ByteArray }, Value.slice (some { block := 65, off := 0 }) nr 9223372036854775873, Value.slice (some { block := 66, off := 0 }) starts.length 9223372036854775874], it := none : Sy.Blk })], lo := [], esc := 0, T := [], k := 1, O := True ∧ decide ((↑k : Int) < (↑starts.length : Int)) = false : St } : Fr }) := by kernel_rfl
theorem ng71 : NG ≤ 71 := by decide
theorem u32_i64 {x : Nat} (h : x < 4294967296) : IntKind.i64.wrap (x : Int) = x := wrap_i64 (by omega) (by omega)
theorem stI_wf (pages stack types : Int) (nc nr : Nat) (data : List UInt8) (starts : List Nat) (k : Nat) : (stI pages stack types nc nr data starts k).Wf :=
  ⟨ng71, Sf.Ok.mk' 3 ⟨⟨rfl, rfl, flat_bnd (u32s_flat starts)⟩, ⟨rfl, rfl, fun v hv => okV_bnd 3 v (List.all_eq_true.1 (show (imgL pages stack types nc nr starts.length data).all (okV (fun l => Nat.blt l 71) 3) = true from by kernel_rfl) v hv)⟩, trivial⟩ rfl (fun x hx => by
    have : (stI pages stack types nc nr data starts k).e.all (fun x => okV (fun l => Nat.blt l 71) 3 x.2) = true := by kernel_rfl
    exact List.all_eq_true.1 this x hx)⟩
theorem st_next (pages stack types : Int) (nc nr : Nat) (data : List UInt8) (starts : List Nat) (k : Nat) (e : Sf) (hl : starts.length < 9000000000000000000) (hx : starts.getD k 0 < 4294967296) (hk : k < starts.length) (hv : starts.getD k 0 < nc) (hn : e.n = 71) (he : e.Ok (keeps 71 71 id (fun l => Nat.blt l 71))) :
    ∃ g, evC Try.prog (evF Try.prog noBase noLoop 100 3) (noLoop 50) 19 100 (loopOf Try.prog 50 0) ((stI pages stack types nc nr data starts k).frT 19 [(0, true), (1, false)]) = some (.normal, g) ∧ g.s.O ∧
      Sf.Leads 3 (fun l => Nat.blt l 71) id (stI pages stack types nc nr data starts k) g (stI pages stack types nc nr data starts (k + 1)) e := by
  refine ⟨_, st_b pages stack types nc nr data starts k, ?_, ?_⟩
  · simp only [u32s_has, u32s_like, u32s_at, Int.toNat_natCast, Nat.zero_add, Nat.mul_one]
    rw [u32_i64 hx]
    exact ⟨bif_true (by simp; omega) (bif_true (by simp; omega) ⟨trivial, by simp; omega⟩), by simp only [decide_eq_false_iff_not]; omega⟩
  · refine ⟨fun _ _ => rfl, ⟨⟨rfl, flat_all (u32s_flat starts), rfl, rfl, rfl, trivial, (flat_map (u32s_flat starts)).symm⟩, ⟨rfl, by kernel_rfl, rfl, rfl, rfl, trivial, by kernel_rfl⟩, trivial⟩, rfl, trivial, ⟨⟨by kernel_rfl, by kernel_rfl⟩, ⟨rfl, by kernel_rfl⟩, ⟨rfl, by kernel_rfl⟩, ⟨rfl, ?_⟩, trivial⟩, Nat.le_refl _, fun l hl => blt_no hl, ?_, ?_⟩
    · refine Eq.trans (b := Value.int .i64 (IntKind.i64.wrap ((k : Int) + 1))) (by kernel_rfl) ?_
      rw [cast_succ_i64 k (by omega)]; rfl
    · rw [hn]; exact he
    · intro x _ _; exact .inl rfl
theorem stF_ok (j : Nat) : (stF j).Ok (keeps 71 71 id (fun l => Nat.blt l 71)) := Sf.Ok.mk' 3 trivial rfl (by simp [stF, okV, flat0])
theorem stN_ok : stN.Ok (keeps 71 71 id (fun l => Nat.blt l 71)) := Sf.Ok.mk' 3 trivial rfl (by simp [stN])
theorem st_found (pages stack types : Int) (nc nr : Nat) (data : List UInt8) (starts : List Nat) (j : Nat) (hl : starts.length < 9000000000000000000) (hx : ∀ x ∈ starts, x < 4294967296) (hj : j < starts.length) (hv : nc ≤ starts.getD j 0) (hn : ∀ i, i < j → starts.getD i 0 < nc) :
    ∀ x : { k : Nat // k ≤ j }, LoopOk Try.prog 19 (loopOf Try.prog 50 0) ((stI pages stack types nc nr data starts x.1).fr 19) .ret ((stF j).fr 19) := by
  have hx' : ∀ i, i < starts.length → starts.getD i 0 < 4294967296 := fun i hi => by
    rw [List.getD_eq_getElem?_getD, List.getElem?_eq_getElem hi]; exact hx _ (List.getElem_mem hi)
  refine loop_ok (L := 100) (run_ok (L := 100) i_names (noBase_ok _) (noLoop_ok _) 3) (noLoop_any _ _ 50) (fun _ h => h) (X := { k : Nat // k ≤ j }) (fun x => stI pages stack types nc nr data starts x.1) (fun _ => stF j) (fun _ => .ret) (fun x => j - x.1) (fun x => stI_wf pages stack types nc nr data starts x.1) ?_
  rintro ⟨k, hk⟩
  by_cases h : k = j
  · subst h
    refine ⟨[(0, true), (1, true)], .ret, _, 3, fun l => Nat.blt l 71, id, st_a pages stack types nc nr data starts k, ?_, .inr ⟨by simp, rfl, ?_⟩⟩
    · simp only [u32s_has, u32s_like, u32s_at, Int.toNat_natCast, Nat.zero_add, Nat.mul_one]
      rw [u32_i64 (hx' k hj)]
      exact ⟨bif_true (by simp; omega) (bif_true (by simp; omega) ⟨trivial, by simp; omega⟩), by simp only [decide_eq_true_eq]; omega⟩
    · exact ⟨fun _ _ => rfl, trivial, rfl, trivial, ⟨⟨rfl, by kernel_rfl⟩, trivial⟩, Nat.le_refl _, fun l hl => blt_no hl, stF_ok k, fun x hx => by cases hx⟩
  · obtain ⟨g, h1, h2, h3⟩ := st_next pages stack types nc nr data starts k (stF j) hl (hx' k (by omega)) (by omega) (hn k (by omega)) rfl (stF_ok j)
    exact ⟨_, .normal, g, 3, _, _, h1, h2, .inl ⟨rfl, ⟨k + 1, by omega⟩, by show j - (k + 1) < j - k; omega, rfl, rfl, h3⟩⟩
theorem st_none (pages stack types : Int) (nc nr : Nat) (data : List UInt8) (starts : List Nat) (hl : starts.length < 9000000000000000000) (hx : ∀ x ∈ starts, x < 4294967296) (hn : ∀ i, i < starts.length → starts.getD i 0 < nc) :
    ∀ x : { k : Nat // k ≤ starts.length }, LoopOk Try.prog 19 (loopOf Try.prog 50 0) ((stI pages stack types nc nr data starts x.1).fr 19) (.exit 0) (stN.fr 19) := by
  have hx' : ∀ i, i < starts.length → starts.getD i 0 < 4294967296 := fun i hi => by
    rw [List.getD_eq_getElem?_getD, List.getElem?_eq_getElem hi]; exact hx _ (List.getElem_mem hi)
  refine loop_ok (L := 100) (run_ok (L := 100) i_names (noBase_ok _) (noLoop_ok _) 3) (noLoop_any _ _ 50) (fun _ h => h) (X := { k : Nat // k ≤ starts.length }) (fun x => stI pages stack types nc nr data starts x.1) (fun _ => stN) (fun _ => .exit 0) (fun x => starts.length - x.1) (fun x => stI_wf pages stack types nc nr data starts x.1) ?_
  rintro ⟨k, hk⟩
  by_cases h : k < starts.length
  · obtain ⟨g, h1, h2, h3⟩ := st_next pages stack types nc nr data starts k stN hl (hx' k h) h (hn k h) rfl stN_ok
    exact ⟨_, .normal, g, 3, _, _, h1, h2, .inl ⟨rfl, ⟨k + 1, by omega⟩, by show starts.length - (k + 1) < starts.length - k; omega, rfl, rfl, h3⟩⟩
  · refine ⟨[(0, false)], .exit 0, _, 3, fun l => Nat.blt l 71, id, st_c pages stack types nc nr data starts k, ?_, .inr ⟨by simp, rfl, ?_⟩⟩
    · simp; omega
    · exact ⟨fun _ _ => rfl, trivial, rfl, trivial, trivial, Nat.le_refl _, fun l hl => blt_no hl, stN_ok, fun x hx => by cases hx⟩
def stEntF (pages stack types : Int) (nc nr : Nat) (data : List UInt8) (starts : List Nat) (j : Nat) (hl : starts.length < 9000000000000000000) (hx : ∀ x ∈ starts, x < 4294967296) (hj : j < starts.length) (hv : nc ≤ starts.getD j 0) (hn : ∀ i, i < j → starts.getD i 0 < nc) : Ent Try.prog :=
  entC Try.prog 50 0 19 (stI pages stack types nc nr data starts 0) .ret (stF j) (by kernel_rfl) (by kernel_rfl) (st_found pages stack types nc nr data starts j hl hx hj hv hn ⟨0, Nat.zero_le _⟩)
def stEntN (pages stack types : Int) (nc nr : Nat) (data : List UInt8) (starts : List Nat) (hl : starts.length < 9000000000000000000) (hx : ∀ x ∈ starts, x < 4294967296) (hn : ∀ i, i < starts.length → starts.getD i 0 < nc) : Ent Try.prog :=
  entC Try.prog 50 0 19 (stI pages stack types nc nr data starts 0) (.exit 0) stN (by kernel_rfl) (by kernel_rfl) (st_none pages stack types nc nr data starts hl hx hn ⟨0, Nat.zero_le _⟩)
end Go.Proofs.Ytdljpnebpoaeiaa
