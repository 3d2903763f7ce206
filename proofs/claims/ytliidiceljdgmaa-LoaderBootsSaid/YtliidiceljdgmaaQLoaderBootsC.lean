/-
  LoaderBoots: part 3 of the proof.
-/
import Derived.Below
import Derived.BigQuiet
import Derived.Calls
import Derived.Deep.AppendLies
import Derived.Deep.DrawnRows
import Derived.Deep.Draws
import Derived.Deep.QuietTactic
import Derived.Deep.RegionHeld3
import Derived.IntWalk
import Derived.KernelRfl
import Derived.Laws.Bits64
import Derived.Laws.BitsAllLaws
import Derived.Laws.BytesArg
import Derived.Laws.Concat
import Derived.Laws.EntriesVeiled
import Derived.Laws.IdiomStrings
import Derived.Laws.OwnMore
import Derived.Laws.Rows
import Derived.Laws.Strings
import Derived.Laws.Strings2
import Derived.Laws.StructEq
import Derived.Lib.Hide
import Derived.Outline
import Derived.OwnWalk
import Derived.Test.YtliidiceljdgmaaChecked
import Derived.Test.YtliidiceljdgmaaProg
import Derived.Test.YtliidiceljdgmaaQLoaderBootsB
import Derived.Test.YtliidiceljdgmaaRows
import Derived.WalkKit
import Derived.WalkLawsBesides
import Derived.WalkSpells
set_option linter.unusedSimpArgs false
set_option linter.unusedVariables false
set_option linter.unusedSectionVars false
namespace Go.Proofs.Ytliidiceljdgmaa
open Go.RowKit
open Sy
set_option maxRecDepth 100000
theorem ar_names : namesOk Try.prog = true:=by kernel_rfl
end Go.Proofs.Ytliidiceljdgmaa
namespace Go.Proofs.Ytliidiceljdgmaa
open Go.RowKit
open Sy
set_option maxRecDepth 100000
theorem w32A (n : Nat) (h : n < 4294967296) : IntKind.u32.wrap (n : Int) = (n : Int):=by simp only [rr, tt, IntKind.wrap_u32]; omega
structure ArOk (zs : List UInt8) (N m n : Nat) : Prop where
 len : zs.length = N
 tags : N ≤ 16 * m
 words : m ≤ 64 * n
 few : n ≤ 100000
 big : N ≤ 1000000
end Go.Proofs.Ytliidiceljdgmaa
namespace Go.Proofs.Ytliidiceljdgmaa
open Go.RowKit
structure Box (p : Prop) : Prop where
 out : p
theorem hide {p : Prop} (h : p) : Hid p:=h
theorem block_of_add (a : Addr) (n : Nat) : (a.add n).block = a.block:=by unfold Addr.add; split <;> rfl
theorem add_of_add (a : Addr) (i j : Nat) : (a.add i).add j = a.add (i + j):=by
 unfold Addr.add
 by_cases hi : i = 0 <;> by_cases hj : j = 0 <;> simp [hi,hj,Nat.add_assoc]
def Reads (w : World) (B size : Nat) (A : Option Addr) (n : Nat) (xs : List Value) : Prop :=
 xs.length = n * size ∧ (0 < n → ∃ ad,A = some ad ∧ ad.block < B ∧ ∀ j u,xs[j]? = some u → w.cell? (ad.add j) = some u)
section
variable {w w' : World} {B B' size n : Nat} {A : Option Addr} {xs : List Value}
theorem Reads.at_ {k : Nat} (h : Reads w B 1 A n xs) (hk : k < n) : ∃ ad u,A = some ad ∧ ad.block < B ∧ xs[k]? = some u ∧ w.cell? (ad.add k) = some u:=by
 obtain ⟨ad,e,hb,hc⟩:=h.2 (by omega)
 have hl : k < xs.length:=by have:=h.1; omega
 exact ⟨ad,xs[k],e,hb,List.getElem?_eq_getElem hl,hc k _ (List.getElem?_eq_getElem hl)⟩
theorem Reads.keep (h : Reads w B size A n xs) (hk : ∀ p : Addr,p.block < B → w'.cell? p = w.cell? p) : Reads w' B size A n xs :=
 ⟨h.1,fun hn => by
  obtain ⟨ad,e,hb,hc⟩:=h.2 hn
  exact ⟨ad,e,hb,fun j u hu => (hk _ (by rw [block_of_add]; exact hb)).trans (hc j u hu)⟩⟩
theorem Reads.below (h : Reads w B size A n xs) (hb : Below B w w') : Reads w' B size A n xs:=h.keep fun _ hp => hb.cell hp
theorem Reads.drew (h : Reads w B size A n xs) : Reads w.drew B size A n xs:=h
theorem Reads.drewN (h : Reads w B size A n xs) (k : Nat) : Reads (w.drewN k) B size A n xs:=h
theorem Reads.alloc (h : Reads w B size A n xs) (hB : B ≤ w.heap.size) (o : Obj) : Reads (w.alloc o) B size A n xs:=h.keep fun p hp => World.cell?_alloc_lt w o p (by omega)
theorem Reads.setCell (h : Reads w B size A n xs) {p : Addr} (hB : B ≤ p.block) (u : Value) : Reads (w.setCell p u) B size A n xs :=
 h.keep fun q hq => World.cell?_setCell_other w p q u (fun e => by subst e; omega)
theorem Reads.cut (h : Reads w B size A n xs) {k cap : Nat} (hk : k ≤ n) (hc : n ≤ cap) :
  Reads w B size (if cap = k then A else A.map (·.add (k * size))) (n - k) (xs.drop (k * size)):=by
 refine ⟨by rw [List.length_drop,h.1,Nat.sub_mul],fun hn => ?_⟩
 obtain ⟨ad,rfl,hb,hcell⟩:=h.2 (by omega)
 rw [if_neg (by omega)]
 refine ⟨ad.add (k * size),rfl,by rw [block_of_add]; exact hb,fun j u hu => ?_⟩
 rw [add_of_add]
 exact hcell _ u (by rw [← hu,List.getElem?_drop])
end
def Blk (w : World) (g : Nat) (t : TypeId) (cs : Array Value) : Prop:=w.heap[g]? = some (.cells cs t (0,0))
section
variable {w w' : World} {g : Nat} {t : TypeId} {cs : Array Value}
theorem Blk.lt (h : Blk w g t cs) : g < w.heap.size:=by
 rcases Nat.lt_or_ge g w.heap.size with hlt | hge
 ·exact hlt
 ·unfold Blk at h; rw [Array.getElem?_eq_none hge] at h; cases h
theorem Blk.cell (h : Blk w g t cs) (i : Nat) : w.cell? ⟨g,i,none⟩ = cs[i]?:=cell_of_row w g i cs t (0,0) h
theorem Blk.frozen (h : Blk w g t cs) (i : Nat) : w.frozen? ⟨g,i,none⟩ = false:=by
 unfold Blk at h
 simp [World.frozen?,h]
theorem Blk.new (w : World) (t : TypeId) (cs : Array Value) : Blk (w.alloc (.cells cs t)) w.heap.size t cs:=heap_alloc_new w _
theorem Blk.drew (h : Blk w g t cs) : Blk w.drew g t cs:=h
theorem Blk.drewN (h : Blk w g t cs) (n : Nat) : Blk (w.drewN n) g t cs:=h
theorem Blk.alloc (h : Blk w g t cs) (o : Obj) : Blk (w.alloc o) g t cs:=(Below.heap_alloc w o g h.lt).trans h
theorem Blk.set_ (h : Blk w g t cs) (i : Nat) (u : Value) : Blk (w.setCell ⟨g,i,none⟩ u) g t (cs.setIfInBounds i u):=by
 unfold Blk at h ⊢
 simp [World.setCell,Array.getElem?_modify,h]
theorem Blk.far (h : Blk w g t cs) {p : Addr} (hp : g ≠ p.block) (u : Value) : Blk (w.setCell p u) g t cs:=(Below.heap_setCell w p u g hp).trans h
theorem Blk.below {B : Nat} (h : Blk w g t cs) (hb : Below B w w') (hg : g < B) : Blk w' g t cs:=(hb.block g hg).trans h
end
def Row (w : World) (B : Nat) (A : Option Addr) (xs : List Value) : Prop :=
 xs = [] ∨ ∃ g off,A = some ⟨g,off,none⟩ ∧ g < B ∧ ∀ j u,xs[j]? = some u → w.cell? ⟨g,off + j,none⟩ = some u
section
variable {w w' : World} {B B' : Nat} {A : Option Addr} {xs : List Value}
theorem Row.keep (h : Row w B A xs) (hk : ∀ p : Addr,p.block < B → w'.cell? p = w.cell? p) : Row w' B A xs:=by
 rcases h with h | ⟨g,off,e,hb,hc⟩
 ·exact .inl h
 ·exact .inr ⟨g,off,e,hb,fun j u hu => (hk _ hb).trans (hc j u hu)⟩
theorem Row.below (h : Row w B A xs) (hb : Below B w w') : Row w' B A xs:=h.keep fun _ hp => hb.cell hp
theorem Row.drew (h : Row w B A xs) : Row w.drew B A xs:=h
theorem Row.drewN (h : Row w B A xs) (k : Nat) : Row (w.drewN k) B A xs:=h
theorem Row.alloc (h : Row w B A xs) (hB : B ≤ w.heap.size) (o : Obj) : Row (w.alloc o) B A xs:=h.keep fun p hp => World.cell?_alloc_lt w o p (by omega)
theorem Row.setCell (h : Row w B A xs) {p : Addr} (hB : B ≤ p.block) (u : Value) : Row (w.setCell p u) B A xs :=
 h.keep fun q hq => World.cell?_setCell_other w p q u (fun e => by subst e; omega)
theorem Row.cut (h : Row w B A xs) {k cap : Nat} (hk : k ≤ xs.length) (hc : xs.length ≤ cap) :
  Row w B (if cap = k then A else A.map (·.add (k * 1))) (xs.drop k):=by
 rcases Nat.lt_or_ge k xs.length with hlt | hge
 ·rcases h with h | ⟨g,off,rfl,hb,hcell⟩
  ·subst h; simp at hlt
  ·rw [if_neg (by omega)]
   refine .inr ⟨g,off + k,?_,hb,fun j u hu => ?_⟩
   ·simp only [rr, tt, Option.map_some,Nat.mul_one,Addr.add]; split
    ·rename_i h0; subst h0; rfl
    ·rfl
   ·rw [List.getElem?_drop] at hu
    rw [Nat.add_assoc]; exact hcell _ u hu
 ·left; exact List.drop_eq_nil_of_le hge
theorem Row.take (h : Row w B A xs) (k : Nat) : Row w B A (xs.take k):=by
 rcases h with h | ⟨g,off,e,hb,hc⟩
 ·exact .inl (by simp [h])
 ·exact .inr ⟨g,off,e,hb,fun j u hu => hc j u (by
   rw [List.getElem?_take] at hu; split at hu
   ·exact hu
   ·cases hu)⟩
theorem Row.place (h : Row w B A xs) (hx : 0 < xs.length) : ∃ g off,A = some ⟨g,off,none⟩ ∧ g < B ∧ ∀ j u,xs[j]? = some u → w.cell? ⟨g,off + j,none⟩ = some u:=by
 rcases h with h | h
 ·subst h; simp at hx
 ·exact h
end
def bs (l : List UInt8) : ByteArray:=⟨l.toArray⟩
@[go_sem] theorem bs_size (l : List UInt8) : (bs l).size = l.length:=by simp [bs,ByteArray.size]
@[go_sem] theorem bs_toList (l : List UInt8) : (bs l).toList = l:=ByteArray.toList_mk l
@[go_sem] theorem bs_append (a b : List UInt8) : bs a ++ bs b = bs (a ++ b):=ByteArray.mk_append_mk a b
@[go_sem] theorem bs_extract (l : List UInt8) (a b : Nat) : (bs l).extract a b = bs ((l.drop a).take (b - a)):=ByteArray.extract_mk l a b
@[go_sem] theorem bs_get (l : List UInt8) (i : Nat) (h : i < (bs l).size) : (bs l)[i]'h = l[i]'(by simpa [bs_size] using h):=by
 simp [bs,ByteArray.getElem_eq_getElem_data]
theorem ret_int {k : IntKind} {a b : Int} (h : a = b) : Ending.returned (.int k a) = .returned (.int k b):=by rw [h]
theorem ret_bool {a b : Bool} (h : a = b) : Ending.returned (.bool a) = .returned (.bool b):=by rw [h]
theorem below_of_drew {B : Nat} {w w' : World} (h : Below B w.drew w') : Below B w w':=⟨h.os,h.tape,h.output,h.size,h.block⟩
theorem below_drewN {B : Nat} {a w : World} (h : Below B a w) (n : Nat) : Below B a (w.drewN n):=⟨h.os,h.tape,h.output,h.size,h.block⟩
theorem bcell {W w1 : World} (hb : Below W.heap.size W w1) : (∀ b o,b < W.heap.size → w1.cell? ⟨b,o,none⟩ = W.cell? ⟨b,o,none⟩) ∧ (∀ b o,b < W.heap.size → w1.frozen? ⟨b,o,none⟩ = W.frozen? ⟨b,o,none⟩) :=
 ⟨fun b o h => hb.cell (p:=⟨b,o,none⟩) h,fun b o h => hb.frozen (p:=⟨b,o,none⟩) h⟩
theorem quiet_left {P : Program} {f : FuncId} {args : Array Value} {w : World} {n : Nat} {v : Value}
  (h : Calls P f args (w.drewN n) fun e w' => e = .returned v ∧ w.drewN n = w') : Calls P f args (w.drewN n) fun e w'' => e = .returned v ∧ ∃ m,w'' = w.drewN m :=
 h.mono fun _ _ ⟨he,hm⟩ => ⟨he,n,hm.symm⟩
end Go.Proofs.Ytliidiceljdgmaa
namespace Go.Proofs.Ytliidiceljdgmaa
def turnN (x edge : Nat) : Nat:=if x < edge then 1 else 0
theorem turnN_le (x edge : Nat) : turnN x edge ≤ 1:=by unfold turnN; split <;> omega
def edgeN (b : Nat) : Nat:=(b + 3072) % 4096
def highN (e b c : Nat) : Int:=((c / 2 ^ e / 4096 : Nat) : Int) - (turnN (c / 2 ^ e % 4096) (edgeN b) : Nat)
def ofN (e b c x : Nat) : Int:=((highN e b c + (turnN x (edgeN b) : Nat)) * 4096 + x) * 2 ^ e
def mayN (e b t : Nat) : Bool:=decide (e ≤ 21) && decide (b < 4096) && decide (t < 4096)
def tellB (e b t c : Nat) : Int:=if mayN e b t then ofN e b c b else 0
def tellT (e b t c : Nat) : Int:=if mayN e b t then ofN e b c t else 0
def tellOk (e b t c : Nat) : Bool:=mayN e b t && decide (0 ≤ tellB e b t c) && decide (tellB e b t c ≤ tellT e b t c) && decide (tellT e b t c ≤ 4294967296)
theorem mayN_true {e b t : Nat} (h : mayN e b t = true) : e ≤ 21 ∧ b < 4096 ∧ t < 4096:=by
 simp only [rr, tt, mayN,Bool.and_eq_true,decide_eq_true_eq] at h; exact ⟨h.1.1,h.1.2,h.2⟩
theorem mayN_mk {e b t : Nat} (h1 : e ≤ 21) (h2 : b < 4096) (h3 : t < 4096) : mayN e b t = true:=by simp [mayN,h1,h2,h3]
theorem pow_le_21 {e : Nat} (h : e ≤ 21) : 2 ^ e ≤ 2097152:=by
 have:=Nat.pow_le_pow_right (n:=2) (by omega) h
 simpa using this
theorem pow_pos2 (e : Nat) : 0 < 2 ^ e:=Nat.pow_pos (by omega)
theorem high_bd {e b c : Nat} (hc : c < 4294967296) : -1 ≤ highN e b c ∧ highN e b c ≤ 1048575:=by
 unfold highN
 have h1:=turnN_le (c / 2 ^ e % 4096) (edgeN b)
 have h2 : c / 2 ^ e ≤ c:=Nat.div_le_self _ _
 generalize c / 2 ^ e = q at h1 h2 ⊢
 have h3 : q / 4096 ≤ 1048575:=by omega
 omega
theorem mul_pow_bd {e : Nat} (he : e ≤ 21) (y : Int) (h1 : -8589934592 ≤ y) (h2 : y ≤ 8589934592) : -9223372036854775808 ≤ y * 2 ^ e ∧ y * 2 ^ e ≤ 9223372036854775807:=by
 have hp:=pow_le_21 he
 have h0:=pow_pos2 e
 have e1 : ((2 : Int) ^ e) = ((2 ^ e : Nat) : Int):=by simp
 rw [e1]
 generalize 2 ^ e = u at hp h0
 have a1 : y * (u : Int) ≤ 8589934592 * (u : Int):=Int.mul_le_mul_of_nonneg_right h2 (by omega)
 have a2 : -8589934592 * (u : Int) ≤ y * (u : Int):=Int.mul_le_mul_of_nonneg_right h1 (by omega)
 omega
theorem of_bd {e b c x : Nat} (hc : c < 4294967296) (hx : x < 65536) : -8589934592 ≤ (highN e b c + (turnN x (edgeN b) : Nat)) * 4096 + x ∧ (highN e b c + (turnN x (edgeN b) : Nat)) * 4096 + x ≤ 8589934592:=by
 have h1:=turnN_le x (edgeN b)
 have h2:=high_bd (e:=e) (b:=b) hc
 omega
def dnN (x e : Nat) : Nat:=x / 2 ^ e * 2 ^ e
def upN (x e : Nat) : Nat:=(x + (2 ^ e - 1)) / 2 ^ e * 2 ^ e
def fitsN (b t e : Nat) : Bool:=decide (upN t e - dnN b e ≤ 2048 * 2 ^ e)
def expoFrom (b t : Nat) : Nat → Nat → Nat
 | 0,e => e
 | n + 1,e => if fitsN b t e then e else expoFrom b t n (e + 1)
def expoN (b t : Nat) : Nat:=expoFrom b t 21 0
theorem dn_le (x e : Nat) : dnN x e ≤ x:=Nat.div_mul_le_self _ _
theorem up_ge (x e : Nat) : x ≤ upN x e:=by
 unfold upN
 have h0:=pow_pos2 e
 have h1:=Nat.div_add_mod (x + (2 ^ e - 1)) (2 ^ e)
 have h2:=Nat.mod_lt (x + (2 ^ e - 1)) h0
 rw [Nat.mul_comm] at h1
 omega
theorem up_lt (x e : Nat) : upN x e < x + 2 ^ e:=by
 unfold upN
 have h0:=pow_pos2 e
 have h1:=Nat.div_mul_le_self (x + (2 ^ e - 1)) (2 ^ e)
 omega
theorem up_least {x e k : Nat} (h : x ≤ k * 2 ^ e) : upN x e ≤ k * 2 ^ e:=by
 unfold upN
 have h0:=pow_pos2 e
 have : (x + (2 ^ e - 1)) / 2 ^ e ≤ k:=by
  have h1 : (x + (2 ^ e - 1)) / 2 ^ e < k + 1:=(Nat.div_lt_iff_lt_mul h0).2 (by rw [Nat.add_mul,Nat.one_mul]; omega)
  omega
 exact Nat.mul_le_mul_right _ this
theorem up_whole {t e : Nat} (he : e ≤ 21) (ht : t ≤ 4294967296) : upN t e ≤ 4294967296:=by
 have hd : 2 ^ e * 2 ^ (32 - e) = 4294967296:=by rw [← Nat.pow_add,show e + (32 - e) = 32 by omega]
 have:=up_least (x:=t) (e:=e) (k:=2 ^ (32 - e)) (by rw [Nat.mul_comm,hd]; exact ht)
 rw [Nat.mul_comm,hd] at this
 exact this
theorem fits_21 {b t : Nat} (ht : t ≤ 4294967296) : fitsN b t 21 = true:=by
 unfold fitsN
 have:=up_whole (e:=21) (by omega) ht
 simp only [rr, tt, decide_eq_true_eq]
 omega
theorem expoFrom_le (b t : Nat) : ∀ n e,expoFrom b t n e ≤ e + n:=by
 intro n
 induction n with
 | zero => intro e; exact Nat.le_refl _
 | succ n ih =>
  intro e
  unfold expoFrom
  split
  ·omega
  ·have:=ih (e + 1); omega
theorem expo_le (b t : Nat) : expoN b t ≤ 21:=by
 have:=expoFrom_le b t 21 0
 unfold expoN; omega
theorem expoFrom_fits (b t : Nat) : ∀ n e,(expoFrom b t n e = e + n ∨ fitsN b t (expoFrom b t n e) = true) ∧ ∀ j,e ≤ j → j < expoFrom b t n e → fitsN b t j = false:=by
 intro n
 induction n with
 | zero => intro e; exact ⟨.inl rfl,fun j h1 h2 => by simp [expoFrom] at h2; omega⟩
 | succ n ih =>
  intro e
  unfold expoFrom
  split
  ·rename_i h; exact ⟨.inr h,fun j h1 h2 => by omega⟩
  ·rename_i h
   obtain ⟨h1,h2⟩:=ih (e + 1)
   refine ⟨?_,fun j hj1 hj2 => ?_⟩
   ·rcases h1 with h1 | h1
    ·left; omega
    ·exact .inr h1
   ·rcases Nat.lt_or_ge j (e + 1) with hj | hj
    ·obtain rfl : j = e:=by omega
     simpa using h
    ·exact h2 j hj hj2
theorem expo_least {b t j : Nat} (h : j < expoN b t) : fitsN b t j = false:=(expoFrom_fits b t 21 0).2 j (by omega) h
theorem and_high (a e : Nat) (ha : a < 18446744073709551616) (he : e ≤ 64) : a &&& (18446744073709551615 - (2 ^ e - 1)) = a / 2 ^ e * 2 ^ e:=by
 have h0:=pow_pos2 e
 have h1 : 18446744073709551615 - (2 ^ e - 1) = 2 ^ 64 - ((2 ^ e - 1) + 1):=by
  have : 2 ^ e ≤ 2 ^ 64:=Nat.pow_le_pow_right (by omega) he
  omega
 rw [h1]
 apply Nat.eq_of_testBit_eq
 intro i
 have h2 : 2 ^ e ≤ 2 ^ 64:=Nat.pow_le_pow_right (by omega) he
 rw [Nat.testBit_and,Nat.testBit_two_pow_sub_succ (by omega),Nat.testBit_two_pow_sub_one,Nat.testBit_mul_two_pow,Nat.testBit_div_two_pow]
 by_cases hi : e ≤ i
 ·rw [Nat.sub_add_cancel hi]
  have e1 : decide (i < e) = false:=by simp; omega
  have e2 : decide (e ≤ i) = true:=by simpa using hi
  rw [e1,e2]
  by_cases h64 : i < 64
  ·have e3 : decide (i < 64) = true:=by simpa using h64
   rw [e3]; simp
  ·have : a.testBit i = false:=Nat.testBit_lt_two_pow (Nat.lt_of_lt_of_le ha (Nat.pow_le_pow_right (n:=2) (by omega) (show 64 ≤ i by omega)))
   rw [this]; simp
 ·have e1 : decide (i < e) = true:=by simp; omega
  have e2 : decide (e ≤ i) = false:=by simpa using hi
  rw [e1,e2]; simp
theorem edge_bits (b : Nat) (_hb : b < 4096) : bits .and .u16 (IntKind.u16.wrap ((b : Int) - 1024)) 4095 = ((edgeN b : Nat) : Int):=by
 have e : IntKind.u16.wrap ((b : Int) - 1024) = (((b + 64512) % 65536 : Nat) : Int):=by rw [IntKind.wrap_u16]; omega
 rw [e]
 have:=u16_and_nat ((b + 64512) % 65536) 4095 (by omega) (by omega)
 rw [nat_mask12] at this
 rw [show ((4095 : Int)) = ((4095 : Nat) : Int) from rfl,this]
 unfold edgeN; omega
theorem mid_bits (q : Nat) (hq : q < 4294967296) : bits .and .i64 (q : Int) 4095 = ((q % 4096 : Nat) : Int):=by
 have h1 : (BitVec.ofInt 64 (q : Int)).toNat = q:=by
  rw [BitVec.ofInt_natCast,BitVec.toNat_ofNat]; exact Nat.mod_eq_of_lt (by omega)
 show IntKind.i64.wrap ((BitVec.ofInt 64 (q : Int) &&& BitVec.ofInt 64 (4095 : Int)).toNat : Int) = _
 rw [BitVec.toNat_and,h1,show (BitVec.ofInt 64 (4095 : Int)).toNat = 4095 from rfl,nat_mask12,IntKind.wrap_i64]
 omega
theorem low_wrap {e : Nat} (he : e ≤ 21) : IntKind.u64.wrap (IntKind.u64.wrap ((2 : Int) ^ e) - 1) = ((2 ^ e - 1 : Nat) : Int):=by
 have hp:=pow_le_21 he
 have h0:=pow_pos2 e
 have e1 : ((2 : Int) ^ e) = ((2 ^ e : Nat) : Int):=by simp
 rw [e1,IntKind.wrap_u64,IntKind.wrap_u64]
 generalize 2 ^ e = u at hp h0
 omega
theorem andNot_dn (x e : Nat) (hx : x < 18446744073709551616) (he : e ≤ 21) : bits .andNot .u64 (x : Int) ((2 ^ e - 1 : Nat) : Int) = ((x / 2 ^ e * 2 ^ e : Nat) : Int):=by
 have hp:=pow_le_21 he
 rw [u64_andNot_nat x (2 ^ e - 1) hx (by omega),and_high x e hx (by omega)]
theorem u64_mask12 (x : Nat) (hx : x < 18446744073709551616) : bits .and .u64 (x : Int) 4095 = ((x % 4096 : Nat) : Int):=by
 have:=u64_and_nat x 4095 hx (by omega)
 rw [nat_mask12] at this
 exact this
theorem dn_div (b e : Nat) : dnN b e / 2 ^ e = b / 2 ^ e:=by
 unfold dnN; exact Nat.mul_div_cancel _ (pow_pos2 e)
def rightN (b t : Nat) : Bool:=decide (b ≤ t) && decide (t ≤ 4294967296)
end Go.Proofs.Ytliidiceljdgmaa
namespace Go.Proofs.Ytliidiceljdgmaa
open Go.RowKit
theorem ret2_both {k k' : IntKind} {a b c d : Int} (h : a = b) (h' : c = d) : Ending.returned (.tuple #[.int k a,.int k' c]) = .returned (.tuple #[.int k b,.int k' d]):=by rw [h,h']
theorem turn_any (x edge : Nat) (a : Addr) (w : World) (hc : w.cell? a = some (.int .u16 edge)) :
  Calls Try.prog 96 #[.int .u16 x,.pointer (some a)] w fun e w' => e = .returned (.int .i64 (turnN x edge : Nat)) ∧ w = w':=by
 by_cases h : (x : Int) < edge
 ·have e : turnN x edge = 1:=by unfold turnN; rw [if_pos (by omega)]
  rw [e]
  go_enter Try.func96,Try.ntmps96
  go_wp2
  go_ret
  exact ⟨rfl,rfl⟩
 ·have e : turnN x edge = 0:=by unfold turnN; rw [if_neg (by omega)]
  rw [e]
  go_enter Try.func96,Try.ntmps96
  go_wp2
  go_ret
  exact ⟨rfl,rfl⟩
theorem of_any (x b e c : Nat) (high r : Int) (edge : Nat) (hr : ofN e b c x = r) (hi : highN e b c = high) (hed : edgeN b = edge) (ah at_ ae ed : Addr) (w : World) (hx : x < 65536) (he : e ≤ 21) (hc : c < 4294967296)
  (h1 : w.cell? ah = some (.int .i64 high)) (h2 : w.cell? at_ = some (.func (.func 96) #[] #[.pointer (some ed)])) (h3 : w.cell? ae = some (.int .u8 e)) (h4 : w.cell? ed = some (.int .u16 edge)) :
  Calls Try.prog 97 #[.int .u16 x,.pointer (some ah),.pointer (some at_),.pointer (some ae)] w fun e' w' => e' = .returned (.int .i64 r) ∧ ∃ m,w' = w.drewN m:=by
 have hh:=high_bd (e:=e) (b:=b) hc
 have ho:=of_bd (e:=e) (b:=b) (x:=x) hc hx
 have ht:=turnN_le x (edgeN b)
 have hw:=mul_pow_bd he _ ho.1 ho.2
 have HO : Hid (wrap64 (((highN e b c + (turnN x (edgeN b) : Nat)) * 4096 + x) * 2 ^ e) = r):=by
  show _ = _
  rw [IntWalk.wrap64_in _ hw]; exact hr
 rw [hed] at ho ht HO
 rw [hi] at hh ho HO
 clear hw hed hi hr
 have ht2 : (0 : Int) ≤ (turnN x edge : Nat) ∧ ((turnN x edge : Nat) : Int) ≤ 1:=by omega
 go_enter Try.func97,Try.ntmps97
 go_wp2_with fail
 go_quiet ((go_at_call 96; refine quiet_left (turn_any x edge _ _ ?_); exact h4))
 go_wp2
 go_ret
 exact ⟨ret_int HO.out,_,rfl⟩
theorem tell_no (e b t c : Nat) (w : World) (h : mayN e b t = false) (hb : b < 65536) (ht : t < 65536) (he : e < 256) :
  Calls Try.prog 76 #[.int .u8 e,.int .u16 b,.int .u16 t,.int .u32 c] w fun e' w' => e' = .returned (.tuple #[.agg #[.int .i64 0,.int .i64 0],.bool false]) ∧ Below w.heap.size w w':=by
 have hcase : (21 : Int) < e ∨ ((e : Int) ≤ 21 ∧ (4095 : Int) < b) ∨ ((e : Int) ≤ 21 ∧ (b : Int) ≤ 4095 ∧ (4095 : Int) < t):=by
  by_cases h1 : e ≤ 21
  ·by_cases h2 : b < 4096
   ·by_cases h3 : t < 4096
    ·rw [mayN_mk h1 h2 h3] at h; cases h
    ·omega
   ·omega
  ·omega
 have H:=hide h; clear h
 rcases hcase with h1 | ⟨h1,h2⟩ | ⟨h1,h2,h3⟩
 ·go_enter Try.func76,Try.ntmps76
  go_wp2
  refine bodyPost_ret (v:=.tuple #[.agg #[.int .i64 0,.int .i64 0],.bool false]) (by simp [results,Try.results76,go_sem] <;> rfl) rfl ⟨rfl,?_⟩
  (repeat (first | exact Below.refl _ _ | refine Below.drew ?_ | refine below_drewN ?_ _ | refine Below.alloc ?_ (by simp <;> omega) _ | refine Below.setCell ?_ (by simp <;> omega) _))
 ·have d1 : decide ((21 : Int) < e) = false:=by simp; omega
  go_enter Try.func76,Try.ntmps76
  go_wp2
  refine bodyPost_ret (v:=.tuple #[.agg #[.int .i64 0,.int .i64 0],.bool false]) (by simp [results,Try.results76,go_sem] <;> rfl) rfl ⟨rfl,?_⟩
  (repeat (first | exact Below.refl _ _ | refine Below.drew ?_ | refine below_drewN ?_ _ | refine Below.alloc ?_ (by simp <;> omega) _ | refine Below.setCell ?_ (by simp <;> omega) _))
 ·have d1 : decide ((21 : Int) < e) = false:=by simp; omega
  have d2 : decide ((4095 : Int) < b) = false:=by simp; omega
  go_enter Try.func76,Try.ntmps76
  go_wp2
  refine bodyPost_ret (v:=.tuple #[.agg #[.int .i64 0,.int .i64 0],.bool false]) (by simp [results,Try.results76,go_sem] <;> rfl) rfl ⟨rfl,?_⟩
  (repeat (first | exact Below.refl _ _ | refine Below.drew ?_ | refine below_drewN ?_ _ | refine Below.alloc ?_ (by simp <;> omega) _ | refine Below.setCell ?_ (by simp <;> omega) _))
set_option maxHeartbeats 1000000 in
theorem tell_yes (e b t c : Nat) (w : World) (he : e ≤ 21) (hb : b < 4096) (ht0 : t < 4096) (hc : c < 4294967296) :
  Calls Try.prog 76 #[.int .u8 e,.int .u16 b,.int .u16 t,.int .u32 c] w fun e' w' => e' = .returned (.tuple #[.agg #[.int .i64 (tellB e b t c),.int .i64 (tellT e b t c)],.bool (tellOk e b t c)]) ∧ Below w.heap.size w w':=by
 obtain ⟨B,hB⟩ : ∃ B,ofN e b c b = B:=⟨_,rfl⟩
 obtain ⟨T,hT⟩ : ∃ T,ofN e b c t = T:=⟨_,rfl⟩
 have hmay:=mayN_mk he hb ht0
 have hok : tellOk e b t c = (decide (0 ≤ B) && decide (B ≤ T) && decide (T ≤ 4294967296)):=by
  unfold tellOk tellB tellT
  rw [hmay,if_pos rfl,if_pos rfl,hB,hT]; rfl
 have hB2 : tellB e b t c = B:=by unfold tellB; rw [if_pos hmay,hB]
 have hT2 : tellT e b t c = T:=by unfold tellT; rw [if_pos hmay,hT]
 rw [hok,hB2,hT2]
 clear hmay hok hB2 hT2
 have HB:=hide hB; clear hB
 have HT:=hide hT; clear hT
 have d1 : decide ((21 : Int) < e) = false:=by simp; omega
 have d2 : decide ((4095 : Int) < b) = false:=by simp; omega
 have d3 : decide ((4095 : Int) < t) = false:=by simp; omega
 obtain ⟨q,hq⟩ : ∃ q,c / 2 ^ e = q:=⟨_,rfl⟩
 have hql : q < 4294967296:=by rw [← hq]; exact Nat.lt_of_le_of_lt (Nat.div_le_self _ _) hc
 have hqi : (c : Int) / 2 ^ e = (q : Int):=by rw [← hq]; simp
 have hmb:=mid_bits q hql
 obtain ⟨m,hm⟩ : ∃ m,q % 4096 = m:=⟨_,rfl⟩
 have hml : m < 4096:=by omega
 have heb:=edge_bits b hb
 obtain ⟨edge,hed⟩ : ∃ k,edgeN b = k:=⟨_,rfl⟩
 have hel : edge < 4096:=by rw [← hed]; unfold edgeN; omega
 have ht:=turnN_le m edge
 have HH : Hid (highN e b c = (q : Int) / 4096 - (turnN m edge : Nat)):=by
  show _ = _
  unfold highN; rw [hq,hm,hed]; omega
 rw [hm] at hmb
 rw [hed] at heb
 have HQ:=hide hq; clear hq
 have HM:=hide hm; clear hm
 have HE:=hide hed; clear hed
 have ht2 : (0 : Int) ≤ (turnN m edge : Nat) ∧ ((turnN m edge : Nat) : Int) ≤ 1:=by omega
 go_enter Try.func76,Try.ntmps76
 go_wp2_with fail
 refine (turn_any m edge _ _ (by simp [go_sem])).mono ?_
 rintro e' w' ⟨rfl,rfl⟩
 go_wp2_with fail
 refine (of_any b b e c _ B edge HB.out HH.out HE.out _ _ _ ⟨w.heap.size + 1 + 1,0,none⟩ _ (by omega) he hc ?_ ?_ ?_ ?_).mono ?_
 ·simp [go_sem]
 ·simp [go_sem]
 ·simp [go_sem]
 ·simp [go_sem]
 rintro e' w' ⟨rfl,m1,rfl⟩
 go_wp2_with fail
 refine (of_any t b e c _ T edge HT.out HH.out HE.out _ _ _ ⟨w.heap.size + 1 + 1,0,none⟩ _ (by omega) he hc ?_ ?_ ?_ ?_).mono ?_
 ·simp [go_sem]
 ·simp [go_sem]
 ·simp [go_sem]
 ·simp [go_sem]
 rintro e' w' ⟨rfl,m2,rfl⟩
 go_wp2_with fail
 by_cases c1 : 0 ≤ B
 ·by_cases c2 : B ≤ T
  ·go_region
   go_wp2
   refine bodyPost_ret (v:=.tuple #[.agg #[.int .i64 B,.int .i64 T],.bool (decide (T ≤ 4294967296))]) (by simp [results,Try.results76,go_sem] <;> rfl) rfl ⟨?_,?_⟩
   ·simp [c1,c2]
   ·(repeat (first | exact Below.refl _ _ | refine Below.drew ?_ | refine below_drewN ?_ _ | refine Below.alloc ?_ (by simp <;> omega) _ | refine Below.setCell ?_ (by simp <;> omega) _))
  ·have d4 : decide (B ≤ T) = false:=by simpa using c2
   go_region
   go_wp2
   refine bodyPost_ret (v:=.tuple #[.agg #[.int .i64 B,.int .i64 T],.bool false]) (by simp [results,Try.results76,go_sem] <;> rfl) rfl ⟨?_,?_⟩
   ·simp
   ·(repeat (first | exact Below.refl _ _ | refine Below.drew ?_ | refine below_drewN ?_ _ | refine Below.alloc ?_ (by simp <;> omega) _ | refine Below.setCell ?_ (by simp <;> omega) _))
 ·have d4 : decide (0 ≤ B) = false:=by simpa using c1
  go_region
  go_wp2
  refine bodyPost_ret (v:=.tuple #[.agg #[.int .i64 B,.int .i64 T],.bool false]) (by simp [results,Try.results76,go_sem] <;> rfl) rfl ⟨?_,?_⟩
  ·simp
  ·(repeat (first | exact Below.refl _ _ | refine Below.drew ?_ | refine below_drewN ?_ _ | refine Below.alloc ?_ (by simp <;> omega) _ | refine Below.setCell ?_ (by simp <;> omega) _))
theorem tell_any (e b t c : Nat) (w : World) (he : e < 256) (hb : b < 65536) (ht : t < 65536) (hc : c < 4294967296) :
  Calls Try.prog 76 #[.int .u8 e,.int .u16 b,.int .u16 t,.int .u32 c] w fun e' w' => e' = .returned (.tuple #[.agg #[.int .i64 (tellB e b t c),.int .i64 (tellT e b t c)],.bool (tellOk e b t c)]) ∧ Below w.heap.size w w':=by
 by_cases h : mayN e b t = true
 ·obtain ⟨h1,h2,h3⟩:=mayN_true h
  exact tell_yes e b t c w h1 h2 h3 hc
 ·have h' : mayN e b t = false:=by simpa using h
  have e1 : tellB e b t c = 0:=by unfold tellB; rw [if_neg h]
  have e2 : tellT e b t c = 0:=by unfold tellT; rw [if_neg h]
  have e3 : tellOk e b t c = false:=by unfold tellOk; rw [h']; rfl
  rw [e1,e2,e3]
  exact tell_no e b t c w h' hb ht he
end Go.Proofs.Ytliidiceljdgmaa
namespace Go.Proofs.Ytliidiceljdgmaa
open Go.RowKit
theorem ret5_bool {a b c d : Value} {x y : Bool} (h : x = y) : Ending.returned (.tuple #[a,b,c,.bool x,d]) = .returned (.tuple #[a,b,c,.bool y,d]):=by rw [h]
theorem beq_cast (u t : Nat) : ((u : Int) == (t : Int)) = decide (u = t):=by
 rw [Bool.eq_iff_iff]; simp; omega
theorem results_tmp5 {fn : Func} {t u v x y : Tmp} (h : fn.results = #[.tmp t,.tmp u,.tmp v,.tmp x,.tmp y]) (tmps : Array Value) (P : Program) (w : World) :
  (results fn tmps).run P w = .ok (.tuple #[tmps.getD t undef,tmps.getD u undef,tmps.getD v undef,tmps.getD x undef,tmps.getD y undef]) w:=by simp [results,h]
theorem rounded_any (b t e : Nat) (w : World) (hb : b < 4294967296) (ht : t ≤ 4294967296) (he : e ≤ 21) :
  Calls Try.prog 95 #[.int .u32 b,.int .u64 t,.int .i64 e] w fun e' w' => e' = .returned (.tuple #[.int .u64 (dnN b e),.int .u64 (upN t e)]) ∧ w = w':=by
 have hp:=pow_le_21 he
 have h0:=pow_pos2 e
 have hlw:=low_wrap he
 have a1:=andNot_dn b e (by omega) he
 have a2:=andNot_dn (t + (2 ^ e - 1)) e (by omega) he
 obtain ⟨lo,hlo⟩ : ∃ lo,2 ^ e - 1 = lo:=⟨_,rfl⟩
 have hlb : lo ≤ 2097151:=by omega
 unfold dnN upN
 rw [hlo] at hlw a1 a2 ⊢
 have A1:=hide a1
 have A2:=hide a2
 clear a1 a2 hlo hp h0
 go_enter Try.func95,Try.ntmps95
 go_wp2
 go_ret2
 exact ⟨ret2_both A1.out A2.out,rfl⟩
theorem right_no (b t : Nat) (w : World) (hb : b < 4294967296) (ht : t < 18446744073709551616) (h : rightN b t = false) :
  Calls Try.prog 93 #[.int .u32 b,.int .u64 t] w fun e' w' => e' = .returned (.bool false) ∧ w = w':=by
 have hcase : (t : Int) < b ∨ ((b : Int) ≤ t ∧ (4294967296 : Int) < t):=by
  simp only [rr, tt, rightN,Bool.and_eq_false_iff,decide_eq_false_iff_not] at h; omega
 rcases hcase with h1 | ⟨h1,h2⟩
 ·have d1 : decide ((b : Int) ≤ t) = false:=by simp; omega
  go_enter Try.func93,Try.ntmps93
  go_wp2
  go_ret
  exact ⟨rfl,rfl⟩
 ·have d1 : decide ((t : Int) ≤ 4294967296) = false:=by simp; omega
  go_enter Try.func93,Try.ntmps93
  go_wp2
  go_ret
  exact ⟨rfl,rfl⟩
theorem right_yes (b t : Nat) (w : World) (h1 : b ≤ t) (h2 : t ≤ 4294967296) :
  Calls Try.prog 93 #[.int .u32 b,.int .u64 t] w fun e' w' => e' = .returned (.bool true) ∧ w = w':=by
 have d1 : (b : Int) ≤ t:=by omega
 have d2 : (t : Int) ≤ 4294967296:=by omega
 have d3 : decide ((t : Int) ≤ 4294967296) = true:=by simpa using d2
 go_enter Try.func93,Try.ntmps93
 go_wp2
 go_ret
 exact ⟨by first | rfl | simp [d2],rfl⟩
theorem exponent_any (b t : Nat) (w : World) (hb : b < 4294967296) (hbt : b ≤ t) (ht : t ≤ 4294967296) :
  Calls Try.prog 94 #[.int .u32 b,.int .u64 t] w fun e' w' => e' = .returned (.int .i64 (expoN b t)) ∧ w = w':=by
 go_enter Try.func94,Try.ntmps94
 go_wp2
 go_loop [8] (fun i => ∃ k : Nat,k ≤ 21 ∧ i = .int .i64 k ∧ Hid (expoN b t = expoFrom b t (21 - k) k)) (fun i => (21 - intOf i).toNat)
 case atStart => exact ⟨0,by omega,rfl,rfl⟩
 case round =>
  obtain ⟨k,hk,rfl,HE⟩:=hrel
  by_cases h0 : k < 21
  ·have hd1:=dn_le b k
   have hd2:=up_ge t k
   have hd3:=up_lt t k
   have hp:=pow_le_21 hk
   have hle : dnN b k ≤ upN t k:=by omega
   have hul : upN t k ≤ 4294967296 + 2097152:=by omega
   have hpw : IntKind.u64.wrap ((2048 : Int) * 2 ^ k) = ((2048 * 2 ^ k : Nat) : Int):=by
    rw [IntKind.wrap_u64,show ((2 : Int) ^ k) = ((2 ^ k : Nat) : Int) by simp]; omega
   obtain ⟨p,hpp⟩ : ∃ p,2048 * 2 ^ k = p:=⟨_,rfl⟩
   obtain ⟨d,hd⟩ : ∃ d,dnN b k = d:=⟨_,rfl⟩
   obtain ⟨u,hu⟩ : ∃ u,upN t k = u:=⟨_,rfl⟩
   have hra:=fun W => rounded_any b t k W hb ht hk
   have HF : Hid (fitsN b t k = decide (u - d ≤ p)):=by show _ = _; unfold fitsN; rw [hpp,hd,hu]
   rw [hd,hu] at hra hle
   rw [hu] at hul
   rw [hpp] at hpw
   have HRA:=hide hra
   clear hra hpp hd hu hd1 hd2 hd3 hp
   by_cases hf : (u : Int) - d ≤ p
   ·go_wp2_with (go_at_call 95; refine (HRA.out _).mono ?_; rintro e' w' ⟨rfl,rfl⟩)
    go_ret
    refine ⟨ret_int ?_,rfl⟩
    have hft : fitsN b t k = true:=by rw [HF.out]; simp; omega
    rw [HE.out,show 21 - k = (20 - k) + 1 by omega,expoFrom,if_pos hft]
   ·go_wp2_with (go_at_call 95; refine (HRA.out _).mono ?_; rintro e' w' ⟨rfl,rfl⟩)
    have hft : fitsN b t k = false:=by rw [HF.out]; simp; omega
    have HT : Hid (expoN b t = expoFrom b t (21 - (k + 1)) (k + 1)):=by
     show _ = _
     rw [HE.out,show 21 - k = (21 - (k + 1)) + 1 by omega,expoFrom,hft]; rfl
    go_round
    case rel => exact ⟨k + 1,by omega,by go_num,HT⟩
    case measure => simp [intOf]; omega
  ·go_wp2
   go_ret
   obtain rfl : k = 21:=by omega
   exact ⟨ret_int (by rw [HE.out]; rfl),rfl⟩
def encE (b t : Nat) : Nat:=if rightN b t then expoN b t else 0
def encB (b t : Nat) : Nat:=if rightN b t then b / 2 ^ expoN b t % 4096 else 0
def encT (b t : Nat) : Nat:=if rightN b t then upN t (expoN b t) / 2 ^ expoN b t % 4096 else 0
def encX (b t : Nat) : Bool:=rightN b t && decide (dnN b (expoN b t) = b) && decide (upN t (expoN b t) = t)
theorem rightN_true {b t : Nat} (h : rightN b t = true) : b ≤ t ∧ t ≤ 4294967296:=by
 simpa [rightN] using h
theorem encode_any (b t : Nat) (w : World) (hb : b < 4294967296) (ht : t < 18446744073709551616) :
  Calls Try.prog 74 #[.int .u32 b,.int .u64 t] w fun e' w' => e' = .returned (.tuple #[.int .u8 (encE b t),.int .u16 (encB b t),.int .u16 (encT b t),.bool (encX b t),.bool (rightN b t)]) ∧ ∃ m,w' = w.drewN m:=by
 by_cases hr : rightN b t = true
 ·obtain ⟨h1,h2⟩:=rightN_true hr
  unfold encE encB encT encX
  rw [hr,if_pos rfl,if_pos rfl,if_pos rfl]
  have hex:=fun W => exponent_any b t W hb h1 h2
  have hk:=expo_le b t
  have hra:=fun W => rounded_any b t (expoN b t) W hb h2 hk
  obtain ⟨k,hkk⟩ : ∃ k,expoN b t = k:=⟨_,rfl⟩
  rw [hkk] at hk hex hra ⊢
  have hd1:=dn_le b k
  have hd3:=up_lt t k
  have hp:=pow_le_21 hk
  obtain ⟨x,hx⟩ : ∃ x,b / 2 ^ k = x:=⟨_,rfl⟩
  have hdx:=dn_div b k
  rw [hx] at hdx ⊢
  obtain ⟨d,hd⟩ : ∃ d,dnN b k = d:=⟨_,rfl⟩
  obtain ⟨u,hu⟩ : ∃ u,upN t k = u:=⟨_,rfl⟩
  rw [hd] at hdx hd1 hra ⊢
  rw [hu] at hd3 hra ⊢
  obtain ⟨y,hy⟩ : ∃ y,u / 2 ^ k = y:=⟨_,rfl⟩
  rw [hy]
  have hxl : x < 4294967296:=by rw [← hx]; exact Nat.lt_of_le_of_lt (Nat.div_le_self _ _) hb
  have hyl : y ≤ 4297064448:=by rw [← hy]; exact Nat.le_trans (Nat.div_le_self _ _) (by omega)
  have i1 : (d : Int) / 2 ^ k = (x : Int):=by rw [← hdx]; simp
  have i2 : (u : Int) / 2 ^ k = (y : Int):=by rw [← hy]; simp
  have i3:=u64_mask12 x (by omega)
  have i4:=u64_mask12 y (by omega)
  obtain ⟨xm,hxm⟩ : ∃ m,x % 4096 = m:=⟨_,rfl⟩
  obtain ⟨ym,hym⟩ : ∃ m,y % 4096 = m:=⟨_,rfl⟩
  have hxml : xm < 4096:=by omega
  have hyml : ym < 4096:=by omega
  rw [hxm] at i3 ⊢
  rw [hym] at i4 ⊢
  have HX:=hide hex
  have HRA:=hide hra
  clear hkk hx hdx hd hu hy hxl hyl hxm hym hp hd1 hd3 hex hra hr
  by_cases c1 : d = b
  ·have d1 : ((d : Int) == b) = true:=by rw [c1]; simp
   have C1:=hide c1
   clear c1
   go_enter Try.func74,Try.ntmps74
   go_wp2_with (first
    | (go_at_call 93; refine (right_yes b t _ h1 h2).mono ?_; rintro e' w' ⟨rfl,rfl⟩)
    | (go_at_call 94; refine (HX.out _).mono ?_; rintro e' w' ⟨rfl,rfl⟩)
    | (go_at_call 95; refine (HRA.out _).mono ?_; rintro e' w' ⟨rfl,rfl⟩))
   go_quiet (fail)
   go_wp2
   refine bodyPost_ret (results_tmp5 rfl _ _ _) rfl ⟨?_,_,rfl⟩
   have c:=C1.out
   simp only [rr, tt, c,decide_true,Bool.true_and]
   exact ret5_bool (beq_cast u t)
  ·have d1 : ((d : Int) == b) = false:=by simp; omega
   have C1:=hide c1
   clear c1
   go_enter Try.func74,Try.ntmps74
   go_wp2_with (first
    | (go_at_call 93; refine (right_yes b t _ h1 h2).mono ?_; rintro e' w' ⟨rfl,rfl⟩)
    | (go_at_call 94; refine (HX.out _).mono ?_; rintro e' w' ⟨rfl,rfl⟩)
    | (go_at_call 95; refine (HRA.out _).mono ?_; rintro e' w' ⟨rfl,rfl⟩))
   go_quiet (fail)
   go_wp2
   refine bodyPost_ret (results_tmp5 rfl _ _ _) rfl ⟨?_,_,rfl⟩
   have c:=C1.out
   simp only [rr, tt, c,decide_false,Bool.and_false,Bool.false_and]
   rfl
 ·have hr' : rightN b t = false:=by simpa using hr
  unfold encE encB encT encX
  rw [hr',if_neg (by simp),if_neg (by simp),if_neg (by simp)]
  have HR:=hide hr'
  clear hr hr'
  go_enter Try.func74,Try.ntmps74
  go_wp2_with (go_at_call 93; refine (right_no b t _ hb ht HR.out).mono ?_; rintro e' w' ⟨rfl,rfl⟩)
  refine bodyPost_ret (results_tmp5 rfl _ _ _) rfl ⟨rfl,0,rfl⟩
def padN (s : Nat) : Nat:=if upN s (expoN 0 s) = 4294967296 then 0 else upN s (expoN 0 s)
def padA (s : Nat) : Nat:=if upN s (expoN 0 s) = 4294967296 then 0 else 2 ^ expoN 0 s
theorem pad_any (s : Nat) (w : World) (hs : s < 4294967296) :
  Calls Try.prog 92 #[.int .u32 s] w fun e' w' => e' = .returned (.tuple #[.int .u32 (padN s),.int .u32 (padA s)]) ∧ ∃ m,w' = w.drewN m:=by
 have hex:=fun W => exponent_any 0 s W (by omega) (by omega) (by omega)
 have hk:=expo_le 0 s
 have hra:=fun W => rounded_any 0 s (expoN 0 s) W (by omega) (by omega) hk
 have hd0 : dnN 0 (expoN 0 s) = 0:=by unfold dnN; simp
 unfold padN padA
 obtain ⟨k,hkk⟩ : ∃ k,expoN 0 s = k:=⟨_,rfl⟩
 rw [hkk] at hk hex hra hd0 ⊢
 have hw:=up_whole (t:=s) hk (by omega)
 have hp:=pow_le_21 hk
 obtain ⟨u,hu⟩ : ∃ u,upN s k = u:=⟨_,rfl⟩
 rw [hd0] at hra
 rw [hu] at hra hw ⊢
 have hpw : IntKind.u32.wrap ((2 : Int) ^ k) = ((2 ^ k : Nat) : Int):=by
  rw [IntKind.wrap_u32,show ((2 : Int) ^ k) = ((2 ^ k : Nat) : Int) by simp]
  generalize 2 ^ k = z at hp
  omega
 obtain ⟨p,hpp⟩ : ∃ p,2 ^ k = p:=⟨_,rfl⟩
 rw [hpp] at hpw ⊢
 have HX:=hide hex
 have HRA:=hide hra
 clear hkk hex hra hu hd0 hpp hp
 by_cases c1 : u = 4294967296
 ·rw [if_pos c1,if_pos c1]
  have d1 : ((u : Int) == 4294967296) = true:=by rw [c1]; rfl
  clear c1
  go_enter Try.func92,Try.ntmps92
  go_wp2_with (first
    | (go_at_call 94; refine (HX.out _).mono ?_; rintro e' w' ⟨rfl,rfl⟩)
    | (go_at_call 95; refine (HRA.out _).mono ?_; rintro e' w' ⟨rfl,rfl⟩))
  go_ret2
  exact ⟨rfl,0,rfl⟩
 ·rw [if_neg c1,if_neg c1]
  have d1 : ((u : Int) == 4294967296) = false:=by simp; omega
  have d2 : (u : Int) < 4294967296:=by omega
  clear c1
  go_enter Try.func92,Try.ntmps92
  go_wp2_with (first
    | (go_at_call 94; refine (HX.out _).mono ?_; rintro e' w' ⟨rfl,rfl⟩)
    | (go_at_call 95; refine (HRA.out _).mono ?_; rintro e' w' ⟨rfl,rfl⟩))
  go_quiet (fail)
  go_wp2
  go_ret2
  exact ⟨rfl,_,rfl⟩
end Go.Proofs.Ytliidiceljdgmaa
namespace Go.Proofs.Ytliidiceljdgmaa
open Go.RowKit
theorem run_equalIn_arr2 {P : Program} (d : Nat) (t e : TypeId) (i : TypeInfo) (k k' : IntKind) (ht : P.underlying t = some (.array 2 e)) (he : P.underlying e = some (.int k')) (hi : P.info? e = some i) (hsz : i.size = 1) (a b c f : Int) (w : World) :
  (Op.equalIn (d + 2) t (.agg #[.int k a,.int k b]) (.agg #[.int k c,.int k f])).run P w = .ok (a == c && b == f) w:=by
 have hp1 : ∀ (x y : Value) W,(part e #[x,y] 0).run P W = .ok x W:=fun x y W => by simp [part,isAgg,run_underlying he]
 have hp2 : ∀ (x y : Value) W,(part e #[x,y] 1).run P W = .ok y W:=fun x y W => by simp [part,isAgg,run_underlying he]
 have he2 : ∀ (x y : Int) W,(Op.equalIn (d + 1) e (.int k x) (.int k y)).run P W = .ok (x == y) W:=fun x y W => run_equalIn_int W d e k k' x y he
 unfold Op.equalIn
 simp only [rr, tt, Sem.run_bind,run_underlying ht,Result.andThen_ok,sizeOf,typeInfo,Std.Legacy.Range.forIn_eq_forIn_range',Std.Legacy.Range.size]
 simp [hi,hsz,List.range',hp1,hp2,he2]
 by_cases h1 : a = c <;> by_cases h2 : b = f <;> simp [h1,h2]
theorem i64_info : (Try.prog.info? 2).map (fun i => (i.zero,i.size,i.bytes)) = some (some (.int .i64 0),1,8):=by kernel_rfl
def keepsN (e b t c n : Nat) : Bool:=tellOk e b t c && decide (tellB e b t c = tellB e b t n) && decide (tellT e b t c = tellT e b t n)
theorem keeps_any (e b t c n : Nat) (w : World) (he : e < 256) (hb : b < 65536) (ht : t < 65536) (hc : c < 4294967296) (hn : n < 4294967296) :
  Calls Try.prog 89 #[.int .u8 e,.int .u16 b,.int .u16 t,.int .u32 c,.int .u32 n] w fun e' w' => e' = .returned (.bool (keepsN e b t c n)) ∧ Below w.heap.size w w':=by
 have hta:=fun W => tell_any e b t c W he hb ht hc
 have htb:=fun W => tell_any e b t n W he hb ht hn
 unfold keepsN
 obtain ⟨B,hB⟩ : ∃ B,tellB e b t c = B:=⟨_,rfl⟩
 obtain ⟨T,hT⟩ : ∃ T,tellT e b t c = T:=⟨_,rfl⟩
 obtain ⟨B',hB'⟩ : ∃ B,tellB e b t n = B:=⟨_,rfl⟩
 obtain ⟨T',hT'⟩ : ∃ T,tellT e b t n = T:=⟨_,rfl⟩
 obtain ⟨k,hk⟩ : ∃ k,tellOk e b t c = k:=⟨_,rfl⟩
 obtain ⟨k',hk'⟩ : ∃ k,tellOk e b t n = k:=⟨_,rfl⟩
 rw [hB,hT,hk] at hta
 rw [hB',hT',hk'] at htb
 rw [hB,hT,hB',hT',hk]
 have HTA:=hide hta
 have HTB:=hide htb
 obtain ⟨i0,hi,hz0,hz1,hz2⟩:=info_parts i64_info
 have heq:=fun (x y : Int) W => run_equalIn_arr2 (P:=Try.prog) 9998 129 2 i0 .i64 .i64 Try.underlying129 Try.underlying2 hi hz1 B T x y W
 clear hz0 hz1 hz2 hi
 clear hta htb hB hT hB' hT' hk hk'
 rcases k with _ | _
 ·go_enter Try.func89,Try.ntmps89
  go_wp2_with fail
  refine (HTA.out _).mono ?_
  rintro e' w1 ⟨rfl,hb1⟩
  have HB1:=hide hb1; clear hb1
  go_wp2_with fail
  refine (HTB.out _).mono ?_
  rintro e' w2 ⟨rfl,hb2⟩
  have HB2:=hide hb2; clear hb2
  go_wp2
  go_ret
  exact ⟨rfl,(((HB1.out.alloc HB1.out.size _).trans (HB2.out.mono (by have:=HB1.out.size; simp; omega))).alloc (by have:=HB1.out.size; have:=HB2.out.size; simp at this; omega) _)⟩
 ·go_enter Try.func89,Try.ntmps89
  go_wp2_with fail
  refine (HTA.out _).mono ?_
  rintro e' w1 ⟨rfl,hb1⟩
  have HB1:=hide hb1; clear hb1
  go_wp2_with fail
  refine (HTB.out _).mono ?_
  rintro e' w2 ⟨rfl,hb2⟩
  have f0 : w2.cell? ⟨w1.heap.size,0,none⟩ = some (.int .i64 B):=(hb2.cell (p:=⟨w1.heap.size,0,none⟩) (by simp)).trans (cell_of_row _ _ 0 _ _ _ (heap_alloc_new w1 _))
  have f1 : w2.cell? ⟨w1.heap.size,1,none⟩ = some (.int .i64 T):=(hb2.cell (p:=⟨w1.heap.size,1,none⟩) (by simp)).trans (cell_of_row _ _ 1 _ _ _ (heap_alloc_new w1 _))
  have hs : w1.heap.size < w2.heap.size:=by have:=hb2.size; simp at this; omega
  have HB2:=hide hb2; clear hb2
  go_wp2
  go_ret
  refine ⟨ret_bool ?_,(((HB1.out.alloc HB1.out.size _).trans (HB2.out.mono (by have:=HB1.out.size; simp; omega))).alloc (by have:=HB1.out.size; have:=HB2.out.size; simp at this; omega) _)⟩
  simp [Bool.beq_eq_decide_eq]
end Go.Proofs.Ytliidiceljdgmaa
namespace Go.Proofs.Ytliidiceljdgmaa
open Go.RowKit
theorem Blk.new2 (w : World) (o : Obj) (t : TypeId) (cs : Array Value) : Blk ((w.alloc o).alloc (.cells cs t)) (w.heap.size + 1) t cs:=by
 have:=Blk.new (w.alloc o) t cs
 rwa [show (w.alloc o).heap.size = w.heap.size + 1 by simp] at this
theorem Blk.new1 (w : World) (o : Obj) (t : TypeId) (cs : Array Value) : Blk ((w.alloc (.cells cs t)).alloc o) w.heap.size t cs:=(Blk.new w t cs).alloc o
def capB (aC aE aB aT aP aY aR : Nat) : Prop:=aC < 4294967296 ∧ aE < 256 ∧ aB < 65536 ∧ aT < 65536 ∧ aP < 65536 ∧ aY < 65536 ∧ aR < 4294967296
theorem capS : Try.prog.stoodInHeld 33 = false:=by kernel_rfl
end Go.Proofs.Ytliidiceljdgmaa
namespace Go.Proofs.Ytliidiceljdgmaa
open Go.RowKit
attribute [local go_sem ↓] Go.wp_at_zero Go.wp_at_succ
theorem end_any (a s : Nat) (w : World) (ha : a < 4294967296) (hs : s < 4294967296) :
  Calls Try.prog 51 #[.agg #[.int .u32 a,.int .u32 s]] w fun e' w' => e' = .returned (.int .u64 ((a : Int) + s)) ∧ Below w.heap.size w w':=by
 go_enter Try.func51,Try.ntmps51
 go_wp2
 go_ret
 exact ⟨rfl,by (repeat (first | exact Below.refl _ _ | refine Below.drew ?_ | refine below_drewN ?_ _ | refine Below.alloc ?_ (by simp <;> omega) _ | refine Below.setCell ?_ (by simp <;> omega) _))⟩
end Go.Proofs.Ytliidiceljdgmaa
namespace Go.Proofs.Ytliidiceljdgmaa
open Go.RowKit
attribute [local go_sem ↓] Go.wp_at_zero Go.wp_at_succ
def makeOk (a s p : Nat) : Bool:=decide (p ≤ 255) && (decide (a + s ≤ 4294967296) && encX a (a + s))
theorem enc_at_end (a s : Nat) (w : World) (ha : a < 4294967296) (_hs : s < 4294967296) (h : a + s ≤ 4294967296) :
  Calls Try.prog 74 #[.int .u32 a,.int .u64 ((a : Int) + s)] w fun e' w' => e' = .returned (.tuple #[.int .u8 (encE a (a + s)),.int .u16 (encB a (a + s)),.int .u16 (encT a (a + s)),.bool (encX a (a + s)),.bool true]) ∧ ∃ m,w' = w.drewN m:=by
 have:=encode_any a (a + s) w ha (by omega)
 rw [show rightN a (a + s) = true by simp [rightN,h],show ((a + s : Nat) : Int) = (a : Int) + s by omega] at this
 exact this
end Go.Proofs.Ytliidiceljdgmaa
namespace Go.Proofs.Ytliidiceljdgmaa
open Go.RowKit
attribute [local go_sem ↓] Go.wp_at_zero Go.wp_at_succ
theorem make_far (a s p : Nat) (w : World) (ha : a < 4294967296) (hs : s < 4294967296) (h1 : ¬ (255 : Int) < p) (h2 : (4294967296 : Int) < (a : Int) + s) :
  Calls Try.prog 77 #[.agg #[.int .u32 a,.int .u32 s],.int .u16 p] w fun e' w' => e' = .returned (.tuple #[.agg #[.int .u32 0,.int .u8 0,.int .u16 0,.int .u16 0,.int .u16 0,.int .u16 0,.int .u32 0,.bool false],.bool false]) ∧ Below w.heap.size w w':=by
 go_enter Try.func77,Try.ntmps77
 go_wp2_with fail
 refine (end_any a s _ ha hs).mono ?_
 rintro e' w1 ⟨rfl,hb1⟩
 have hz1:=hb1.size
 simp at hz1
 obtain ⟨hc1,hf1⟩:=bcell hb1
 have HB1:=hide hb1; clear hb1
 go_wp2
 refine bodyPost_ret (v:=.tuple #[.agg #[.int .u32 0,.int .u8 0,.int .u16 0,.int .u16 0,.int .u16 0,.int .u16 0,.int .u32 0,.bool false],.bool false]) (by simp [results,Try.results77,go_sem,hc1]) rfl ⟨rfl,?_⟩
 have hS : w.heap.size ≤ w1.heap.size:=by omega
 repeat (refine Below.setCell ?_ (by simp <;> omega) _)
 exact (((Below.refl _ _).alloc (Nat.le_refl _) _).alloc (by simp) _).trans (HB1.out.mono (by simp; omega))
theorem make_wide (a s p : Nat) (w : World) (h1 : (255 : Int) < p) :
  Calls Try.prog 77 #[.agg #[.int .u32 a,.int .u32 s],.int .u16 p] w fun e' w' => e' = .returned (.tuple #[.agg #[.int .u32 0,.int .u8 0,.int .u16 0,.int .u16 0,.int .u16 0,.int .u16 0,.int .u32 0,.bool false],.bool false]) ∧ Below w.heap.size w w':=by
 go_enter Try.func77,Try.ntmps77
 go_wp2
 refine bodyPost_ret (v:=.tuple #[.agg #[.int .u32 0,.int .u8 0,.int .u16 0,.int .u16 0,.int .u16 0,.int .u16 0,.int .u32 0,.bool false],.bool false]) (by simp [results,Try.results77,go_sem]) rfl ⟨rfl,by (repeat (first | exact Below.refl _ _ | refine Below.drew ?_ | refine below_drewN ?_ _ | refine Below.alloc ?_ (by simp <;> omega) _ | refine Below.setCell ?_ (by simp <;> omega) _))⟩
set_option maxHeartbeats 1000000 in
theorem make_yes (a s p e b t : Nat) (w : World) (ha : a < 4294967296) (hs : s < 4294967296) (h1 : ¬ (255 : Int) < p) (h2 : decide ((4294967296 : Int) < (a : Int) + s) = false)
  (HE : Hid (∀ W,Calls Try.prog 74 #[.int .u32 a,.int .u64 ((a : Int) + s)] W fun e' w' => e' = .returned (.tuple #[.int .u8 e,.int .u16 b,.int .u16 t,.bool true,.bool true]) ∧ ∃ m,w' = W.drewN m)) :
  Calls Try.prog 77 #[.agg #[.int .u32 a,.int .u32 s],.int .u16 p] w fun e' w' => e' = .returned (.tuple #[.agg #[.int .u32 a,.int .u8 e,.int .u16 b,.int .u16 t,.int .u16 p,.int .u16 0,.int .u32 0,.bool true],.bool true]) ∧ Below w.heap.size w w':=by
 go_enter Try.func77,Try.ntmps77
 go_wp2_with fail
 refine (end_any a s _ ha hs).mono ?_
 rintro e' w1 ⟨rfl,hb1⟩
 have hz1:=hb1.size
 simp at hz1
 have hk1:=(Blk.new1 w _ _ _).below hb1 (by simp; omega)
 have hk2:=(Blk.new2 w _ _ _).below hb1 (by simp)
 have f0 : w1.cell? ⟨w.heap.size,0,none⟩ = some (.int .u32 a):=hk1.cell 0
 have f1 : w1.cell? ⟨w.heap.size,1,none⟩ = some (.int .u32 s):=hk1.cell 1
 have HK1:=hide hk1
 have HK2:=hide hk2
 have HB1:=hide hb1; clear hb1 hk1 hk2
 go_wp2_with fail
 have KK : Hid (∀ W,Below w1.heap.size w1 W → W.cell? ⟨w.heap.size,0,none⟩ = some (.int .u32 a) ∧ W.cell? ⟨w.heap.size,1,none⟩ = some (.int .u32 s)):=fun W hW => ⟨(hW.cell (p:=⟨w.heap.size,0,none⟩) (by show w.heap.size < _; omega)).trans f0,(hW.cell (p:=⟨w.heap.size,1,none⟩) (by show w.heap.size < _; omega)).trans f1⟩
 go_region_held3 (fun w' => w'.cell? ⟨w.heap.size,0,none⟩ = some (.int .u32 a) ∧ w'.cell? ⟨w.heap.size,1,none⟩ = some (.int .u32 s)) ((refine KK.out _ ?_; repeat (first | exact Below.refl _ _ | exact below_of_drew hb2 | refine Below.drew ?_ | refine below_drewN ?_ _)))
  (first
   | (go_at_call 51; refine (end_any a s _ ha hs).mono ?_; rintro e' w2 ⟨rfl,hb2⟩)
   | (go_at_call 74; refine (HE.out _).mono ?_; rintro e' w3 ⟨rfl,m,rfl⟩))
 all_goals
  have hb3 : Below w1.heap.size w1 w2:=below_of_drew hb2
  have hz2:=hb3.size
  have hk1:=HK1.out.below hb3 (by omega)
  have hk2:=HK2.out.below hb3 (by omega)
  have g0 : w2.cell? ⟨w.heap.size,0,none⟩ = some (.int .u32 a):=hk1.cell 0
  have c0:=hk2.cell 0
  have d0:=hk2.frozen 0
  have c1:=hk2.cell 1
  have d1:=hk2.frozen 1
  have c2:=hk2.cell 2
  have d2:=hk2.frozen 2
  have c3:=hk2.cell 3
  have d3:=hk2.frozen 3
  have c4:=hk2.cell 4
  have d4:=hk2.frozen 4
  have c5:=hk2.cell 5
  have d5:=hk2.frozen 5
  have c6:=hk2.cell 6
  have d6:=hk2.frozen 6
  have c7:=hk2.cell 7
  have d7:=hk2.frozen 7
  simp at c0 c1 c2 c3 c4 c5 c6 c7
  have HB2:=hide hb3; clear hb2 hb3 hk1 hk2
  go_wp2
  refine bodyPost_ret (v:=.tuple #[.agg #[.int .u32 a,.int .u8 e,.int .u16 b,.int .u16 t,.int .u16 p,.int .u16 0,.int .u32 0,.bool true],.bool true]) (by simp [results,Try.results77,go_sem,c0,c1,c2,c3,c4,c5,c6,c7]) rfl ⟨rfl,?_⟩
  repeat (first | refine Below.setCell ?_ (by simp <;> omega) _ | refine below_drewN ?_ _)
  exact ((((Below.refl _ _).alloc (Nat.le_refl _) _).alloc (by simp) _).trans (HB1.out.mono (by simp; omega))).trans (HB2.out.mono (by omega))
set_option maxHeartbeats 1000000 in
theorem make_no (a s p e b t : Nat) (w : World) (ha : a < 4294967296) (hs : s < 4294967296) (h1 : ¬ (255 : Int) < p) (h2 : decide ((4294967296 : Int) < (a : Int) + s) = false)
  (HE : Hid (∀ W,Calls Try.prog 74 #[.int .u32 a,.int .u64 ((a : Int) + s)] W fun e' w' => e' = .returned (.tuple #[.int .u8 e,.int .u16 b,.int .u16 t,.bool false,.bool true]) ∧ ∃ m,w' = W.drewN m)) :
  Calls Try.prog 77 #[.agg #[.int .u32 a,.int .u32 s],.int .u16 p] w fun e' w' => e' = .returned (.tuple #[.agg #[.int .u32 0,.int .u8 0,.int .u16 0,.int .u16 0,.int .u16 0,.int .u16 0,.int .u32 0,.bool false],.bool false]) ∧ Below w.heap.size w w':=by
 go_enter Try.func77,Try.ntmps77
 go_wp2_with fail
 refine (end_any a s _ ha hs).mono ?_
 rintro e' w1 ⟨rfl,hb1⟩
 have hz1:=hb1.size
 simp at hz1
 have hk1:=(Blk.new1 w _ _ _).below hb1 (by simp; omega)
 have hk2:=(Blk.new2 w _ _ _).below hb1 (by simp)
 have f0 : w1.cell? ⟨w.heap.size,0,none⟩ = some (.int .u32 a):=hk1.cell 0
 have f1 : w1.cell? ⟨w.heap.size,1,none⟩ = some (.int .u32 s):=hk1.cell 1
 have HK1:=hide hk1
 have HK2:=hide hk2
 have HB1:=hide hb1; clear hb1 hk1 hk2
 go_wp2_with fail
 have KK : Hid (∀ W,Below w1.heap.size w1 W → W.cell? ⟨w.heap.size,0,none⟩ = some (.int .u32 a) ∧ W.cell? ⟨w.heap.size,1,none⟩ = some (.int .u32 s)):=fun W hW => ⟨(hW.cell (p:=⟨w.heap.size,0,none⟩) (by show w.heap.size < _; omega)).trans f0,(hW.cell (p:=⟨w.heap.size,1,none⟩) (by show w.heap.size < _; omega)).trans f1⟩
 go_region_held3 (fun w' => w'.cell? ⟨w.heap.size,0,none⟩ = some (.int .u32 a) ∧ w'.cell? ⟨w.heap.size,1,none⟩ = some (.int .u32 s)) ((refine KK.out _ ?_; repeat (first | exact Below.refl _ _ | exact below_of_drew hb2 | refine Below.drew ?_ | refine below_drewN ?_ _)))
  (first
   | (go_at_call 51; refine (end_any a s _ ha hs).mono ?_; rintro e' w2 ⟨rfl,hb2⟩)
   | (go_at_call 74; refine (HE.out _).mono ?_; rintro e' w3 ⟨rfl,m,rfl⟩))
 all_goals
  have hb3 : Below w1.heap.size w1 w2:=below_of_drew hb2
  have hz2:=hb3.size
  have hk1:=HK1.out.below hb3 (by omega)
  have hk2:=HK2.out.below hb3 (by omega)
  have g0 : w2.cell? ⟨w.heap.size,0,none⟩ = some (.int .u32 a):=hk1.cell 0
  have c0:=hk2.cell 0
  have d0:=hk2.frozen 0
  have c1:=hk2.cell 1
  have d1:=hk2.frozen 1
  have c2:=hk2.cell 2
  have d2:=hk2.frozen 2
  have c3:=hk2.cell 3
  have d3:=hk2.frozen 3
  have c4:=hk2.cell 4
  have d4:=hk2.frozen 4
  have c5:=hk2.cell 5
  have d5:=hk2.frozen 5
  have c6:=hk2.cell 6
  have d6:=hk2.frozen 6
  have c7:=hk2.cell 7
  have d7:=hk2.frozen 7
  simp at c0 c1 c2 c3 c4 c5 c6 c7
  have HB2:=hide hb3; clear hb2 hb3 hk1 hk2
  go_wp2
  refine bodyPost_ret (v:=.tuple #[.agg #[.int .u32 0,.int .u8 0,.int .u16 0,.int .u16 0,.int .u16 0,.int .u16 0,.int .u32 0,.bool false],.bool false]) (by simp [results,Try.results77,go_sem,c0,c1,c2,c3,c4,c5,c6,c7]) rfl ⟨rfl,?_⟩
  repeat (first | refine Below.setCell ?_ (by simp <;> omega) _ | refine below_drewN ?_ _)
  exact ((((Below.refl _ _).alloc (Nat.le_refl _) _).alloc (by simp) _).trans (HB1.out.mono (by simp; omega))).trans (HB2.out.mono (by omega))
theorem makeOk_true {a s p : Nat} (h : makeOk a s p = true) : p ≤ 255 ∧ a + s ≤ 4294967296 ∧ encX a (a + s) = true:=by
 simp only [rr, tt, makeOk,Bool.and_eq_true,decide_eq_true_eq] at h; exact h
theorem make_y (a s p : Nat) (w : World) (ha : a < 4294967296) (hs : s < 4294967296) (h : makeOk a s p = true) :
  Calls Try.prog 77 #[.agg #[.int .u32 a,.int .u32 s],.int .u16 p] w fun e' w' => e' = .returned (.tuple #[.agg #[.int .u32 a,.int .u8 (encE a (a + s)),.int .u16 (encB a (a + s)),.int .u16 (encT a (a + s)),.int .u16 p,.int .u16 0,.int .u32 0,.bool true],.bool true]) ∧ Below w.heap.size w w':=by
 obtain ⟨h1,h2,h3⟩:=makeOk_true h
 refine make_yes a s p _ _ _ w ha hs (by omega) (by simp; omega) (fun W => ?_)
 have:=enc_at_end a s W ha hs h2
 rwa [h3] at this
theorem make_n (a s p : Nat) (w : World) (ha : a < 4294967296) (hs : s < 4294967296) (h : makeOk a s p = false) :
  Calls Try.prog 77 #[.agg #[.int .u32 a,.int .u32 s],.int .u16 p] w fun e' w' => e' = .returned (.tuple #[.agg #[.int .u32 0,.int .u8 0,.int .u16 0,.int .u16 0,.int .u16 0,.int .u16 0,.int .u32 0,.bool false],.bool false]) ∧ Below w.heap.size w w':=by
 by_cases h1 : (255 : Int) < p
 ·exact make_wide a s p w h1
 ·by_cases h2 : (4294967296 : Int) < (a : Int) + s
  ·exact make_far a s p w ha hs h1 h2
  ·have h3 : encX a (a + s) = false:=by
    simp only [rr, tt, makeOk,Bool.and_eq_false_iff,decide_eq_false_iff_not] at h
    rcases h with h | h | h
    ·omega
    ·omega
    ·exact h
   refine make_no a s p (encE a (a + s)) (encB a (a + s)) (encT a (a + s)) w ha hs h1 (by simp; omega) (fun W => ?_)
   have:=enc_at_end a s W ha hs (by omega)
   rwa [h3] at this
end Go.Proofs.Ytliidiceljdgmaa
namespace Go.Proofs.Ytliidiceljdgmaa
open Go.RowKit
theorem rrounded_any (b t e : Nat) (w : World) (hb : b < 4294967296) (ht : t ≤ 4294967296) (he : e ≤ 21) :
  Calls Try.prog 105 #[.int .u32 b,.int .u64 t,.int .u8 e] w fun e' w' => e' = .returned (.tuple #[.int .u64 (dnN b e),.int .u64 (upN t e)]) ∧ ∃ m,w' = w.drewN m:=by
 have hp:=pow_le_21 he
 have h0:=pow_pos2 e
 have hd1:=dn_le b e
 have hd3:=up_lt t e
 have hpw : IntKind.u64.wrap ((2 : Int) ^ e) = ((2 ^ e : Nat) : Int):=by
  rw [IntKind.wrap_u64,show ((2 : Int) ^ e) = ((2 ^ e : Nat) : Int) by simp]
  generalize 2 ^ e = z at hp
  omega
 unfold dnN at hd1 ⊢
 unfold upN at hd3 ⊢
 obtain ⟨U,hU⟩ : ∃ U,2 ^ e = U:=⟨_,rfl⟩
 rw [hU] at hp h0 hpw hd1 hd3 ⊢
 obtain ⟨x,hx⟩ : ∃ x,b / U = x:=⟨_,rfl⟩
 obtain ⟨y,hy⟩ : ∃ y,(t + (U - 1)) / U = y:=⟨_,rfl⟩
 rw [hx] at hd1 ⊢
 rw [hy] at hd3 ⊢
 obtain ⟨d,hd⟩ : ∃ d,x * U = d:=⟨_,rfl⟩
 obtain ⟨u,hu⟩ : ∃ u,y * U = u:=⟨_,rfl⟩
 rw [hd] at hd1 ⊢
 rw [hu] at hd3 ⊢
 have r1 : (b : Int) / (U : Int) = (x : Int):=by rw [← hx]; simp
 have r2 : (t : Int) + U - 1 = ((t + (U - 1) : Nat) : Int):=by omega
 have r3 : IntKind.u64.wrap ((t : Int) + U) = (t : Int) + U:=by rw [IntKind.wrap_u64]; omega
 have r4 : IntKind.u64.wrap ((t : Int) + U - 1) = ((t + (U - 1) : Nat) : Int):=by rw [IntKind.wrap_u64]; omega
 obtain ⟨s,hs⟩ : ∃ s,t + (U - 1) = s:=⟨_,rfl⟩
 rw [hs] at r2 r4 hy
 have r5 : (s : Int) / (U : Int) = (y : Int):=by rw [← hy]; simp
 have r6 : (x : Int) * (U : Int) = (d : Int):=by rw [← hd]; simp
 have r7 : (y : Int) * (U : Int) = (u : Int):=by rw [← hu]; simp
 have r8 : IntKind.u64.wrap (d : Int) = (d : Int):=by rw [IntKind.wrap_u64]; omega
 have r9 : IntKind.u64.wrap (u : Int) = (u : Int):=by rw [IntKind.wrap_u64]; omega
 have hne : ((U : Int) == 0) = false:=by simp; omega
 have hxl : x ≤ 4294967295:=by rw [← hx]; exact Nat.le_trans (Nat.div_le_self _ _) (by omega)
 have hyl : y ≤ 4297064448:=by rw [← hy]; exact Nat.le_trans (Nat.div_le_self _ _) (by omega)
 clear hx hy hd hu hU hs
 go_enter Try.func105,Try.ntmps105
 go_wp2
 go_quiet (fail)
 go_wp2
 go_ret2
 exact ⟨rfl,_,rfl⟩
theorem expo_here {b t k : Nat} (hk : k ≤ 21) (hE : expoN b t = expoFrom b t (21 - k) k) (hf : fitsN b t k = true) : expoN b t = k:=by
 rw [hE]
 rcases Nat.lt_or_ge k 21 with h | h
 ·rw [show 21 - k = (20 - k) + 1 by omega,expoFrom,if_pos hf]
 ·rw [show 21 - k = 0 by omega]; rfl
theorem rexponent_any (b t : Nat) (w : World) (hb : b < 4294967296) (hbt : b ≤ t) (ht : t ≤ 4294967296) :
  Calls Try.prog 104 #[.int .u32 b,.int .u64 t] w fun e' w' => e' = .returned (.int .u8 (expoN b t)) ∧ ∃ m,w' = w.drewN m:=by
 go_enter Try.func104,Try.ntmps104
 go_wp2
 go_loopw [5] (fun i wr => ∃ k m : Nat,k ≤ 21 ∧ i = .int .u8 k ∧ Hid (expoN b t = expoFrom b t (21 - k) k) ∧ wr = w.drewN m) (fun i _ => (21 - intOf i).toNat)
 case atStart => exact ⟨0,0,by omega,rfl,rfl,rfl⟩
 case round =>
  obtain ⟨k,m,hk,rfl,HE,rfl⟩:=hrel
  have hd1:=dn_le b k
  have hd2:=up_ge t k
  have hd3:=up_lt t k
  have hp:=pow_le_21 hk
  have hle : dnN b k ≤ upN t k:=by omega
  have hul : upN t k ≤ 4294967296 + 2097152:=by omega
  have hpw : IntKind.u64.wrap ((2048 : Int) * 2 ^ k) = ((2048 * 2 ^ k : Nat) : Int):=by
   rw [IntKind.wrap_u64,show ((2 : Int) ^ k) = ((2 ^ k : Nat) : Int) by simp]
   generalize 2 ^ k = z at hp
   omega
  obtain ⟨p,hpp⟩ : ∃ p,2048 * 2 ^ k = p:=⟨_,rfl⟩
  obtain ⟨d,hd⟩ : ∃ d,dnN b k = d:=⟨_,rfl⟩
  obtain ⟨u,hu⟩ : ∃ u,upN t k = u:=⟨_,rfl⟩
  have hra:=fun W => rrounded_any b t k W hb ht hk
  have HF : Hid (fitsN b t k = decide (u - d ≤ p)):=by show _ = _; unfold fitsN; rw [hpp,hd,hu]
  rw [hd,hu] at hra hle
  rw [hu] at hul
  rw [hpp] at hpw
  have HRA:=hide hra
  clear hra hpp hd hu hd1 hd2 hd3 hp
  by_cases hf : (u : Int) - d ≤ p
  ·go_wp2_with (go_at_call 105; refine (HRA.out _).mono ?_; rintro e' w' ⟨rfl,m2,rfl⟩)
   go_ret
   have hft : fitsN b t k = true:=by rw [HF.out]; simp; omega
   exact ⟨ret_int (by rw [expo_here hk HE.out hft]),_,rfl⟩
  ·have hft : fitsN b t k = false:=by rw [HF.out]; simp; omega
   have h21 : k < 21:=by
    rcases Nat.lt_or_ge k 21 with h | h
    ·exact h
    ·obtain rfl : k = 21:=by omega
     rw [fits_21 ht] at hft; cases hft
   have HT : Hid (expoN b t = expoFrom b t (21 - (k + 1)) (k + 1)):=by
    show _ = _
    rw [HE.out,show 21 - k = (21 - (k + 1)) + 1 by omega,expoFrom,hft]; rfl
   clear hft
   go_wp2_with (go_at_call 105; refine (HRA.out _).mono ?_; rintro e' w' ⟨rfl,m2,rfl⟩)
   go_roundw
   case rel => exact ⟨k + 1,_,by omega,by go_num,HT,rfl⟩
   case measure => simp [intOf]; omega
theorem rencode_any (b t : Nat) (w : World) (hb : b < 4294967296) (ht : t < 18446744073709551616) :
  Calls Try.prog 98 #[.int .u32 b,.int .u64 t] w fun e' w' => e' = .returned (.tuple #[.int .u8 (encE b t),.int .u16 (encB b t),.int .u16 (encT b t),.bool (encX b t),.bool (rightN b t)]) ∧ ∃ m,w' = w.drewN m:=by
 by_cases hr : rightN b t = true
 ·obtain ⟨h1,h2⟩:=rightN_true hr
  unfold encE encB encT encX
  rw [hr,if_pos rfl,if_pos rfl,if_pos rfl]
  have hex:=fun W => rexponent_any b t W hb h1 h2
  have hk:=expo_le b t
  have hra:=fun W => rrounded_any b t (expoN b t) W hb h2 hk
  obtain ⟨k,hkk⟩ : ∃ k,expoN b t = k:=⟨_,rfl⟩
  rw [hkk] at hk hex hra ⊢
  have hd1:=dn_le b k
  have hd3:=up_lt t k
  have hp:=pow_le_21 hk
  have h0:=pow_pos2 k
  have hpw : IntKind.u64.wrap ((2 : Int) ^ k) = ((2 ^ k : Nat) : Int):=by
   rw [IntKind.wrap_u64,show ((2 : Int) ^ k) = ((2 ^ k : Nat) : Int) by simp]
   generalize 2 ^ k = z at hp
   omega
  obtain ⟨x,hx⟩ : ∃ x,b / 2 ^ k = x:=⟨_,rfl⟩
  have hdx:=dn_div b k
  rw [hx] at hdx ⊢
  obtain ⟨d,hd⟩ : ∃ d,dnN b k = d:=⟨_,rfl⟩
  obtain ⟨u,hu⟩ : ∃ u,upN t k = u:=⟨_,rfl⟩
  rw [hd] at hdx hd1 hra ⊢
  rw [hu] at hd3 hra ⊢
  obtain ⟨y,hy⟩ : ∃ y,u / 2 ^ k = y:=⟨_,rfl⟩
  rw [hy]
  obtain ⟨U,hU⟩ : ∃ U,2 ^ k = U:=⟨_,rfl⟩
  rw [hU] at hp h0 hpw hdx hy hx hd3
  have hxl : x < 4294967296:=by rw [← hx]; exact Nat.lt_of_le_of_lt (Nat.div_le_self _ _) hb
  have hyl : y ≤ 4297064448:=by rw [← hy]; exact Nat.le_trans (Nat.div_le_self _ _) (by omega)
  have i1 : (d : Int) / (U : Int) = (x : Int):=by rw [← hdx]; simp
  have i2 : (u : Int) / (U : Int) = (y : Int):=by rw [← hy]; simp
  have hne : ((U : Int) == 0) = false:=by simp; omega
  obtain ⟨xm,hxm⟩ : ∃ m,x % 4096 = m:=⟨_,rfl⟩
  obtain ⟨ym,hym⟩ : ∃ m,y % 4096 = m:=⟨_,rfl⟩
  have hxml : xm < 4096:=by omega
  have hyml : ym < 4096:=by omega
  have i3 : (x : Int) % 4096 = (xm : Int):=by rw [← hxm]; simp
  have i4 : (y : Int) % 4096 = (ym : Int):=by rw [← hym]; simp
  rw [hxm,hym]
  have HX:=hide hex
  have HRA:=hide hra
  clear hkk hx hdx hd hu hy hxm hym hd1 hd3 hex hra hr hU
  have g1 : decide ((t : Int) < b) = false:=by simp; omega
  have g2 : decide ((4294967296 : Int) < t) = false:=by simp; omega
  by_cases c1 : d = b
  ·have d1 : ((d : Int) == b) = true:=by rw [c1]; simp
   have C1:=hide c1
   clear c1
   go_enter Try.func98,Try.ntmps98
   go_wp2_with (first
    | (go_at_call 104; refine (HX.out _).mono ?_; rintro e' w' ⟨rfl,m1,rfl⟩)
    | (go_at_call 105; refine (HRA.out _).mono ?_; rintro e' w' ⟨rfl,m2,rfl⟩))
   go_quiet (fail)
   go_wp2
   refine bodyPost_ret (results_tmp5 rfl _ _ _) rfl ⟨?_,_,World.drewN_drewN _ _ _⟩
   have c:=C1.out
   simp only [rr, tt, c,decide_true,Bool.true_and]
   exact ret5_bool (beq_cast u t)
  ·have d1 : ((d : Int) == b) = false:=by simp; omega
   have C1:=hide c1
   clear c1
   go_enter Try.func98,Try.ntmps98
   go_wp2_with (first
    | (go_at_call 104; refine (HX.out _).mono ?_; rintro e' w' ⟨rfl,m1,rfl⟩)
    | (go_at_call 105; refine (HRA.out _).mono ?_; rintro e' w' ⟨rfl,m2,rfl⟩))
   go_quiet (fail)
   go_wp2
   refine bodyPost_ret (results_tmp5 rfl _ _ _) rfl ⟨?_,_,World.drewN_drewN _ _ _⟩
   have c:=C1.out
   simp only [rr, tt, c,decide_false,Bool.and_false,Bool.false_and]
   rfl
 ·have hr' : rightN b t = false:=by simpa using hr
  unfold encE encB encT encX
  rw [hr',if_neg (by simp),if_neg (by simp),if_neg (by simp)]
  have hcase : (t : Int) < b ∨ ((b : Int) ≤ t ∧ (4294967296 : Int) < t):=by
   simp only [rr, tt, rightN,Bool.and_eq_false_iff,decide_eq_false_iff_not] at hr'; omega
  clear hr hr'
  rcases hcase with h1 | ⟨h1,h2⟩
  ·go_enter Try.func98,Try.ntmps98
   go_wp2
   exact bodyPost_ret (results_tmp5 rfl _ _ _) rfl ⟨rfl,0,rfl⟩
  ·have g1 : decide ((t : Int) < b) = false:=by simp; omega
   go_enter Try.func98,Try.ntmps98
   go_wp2
   exact bodyPost_ret (results_tmp5 rfl _ _ _) rfl ⟨rfl,0,rfl⟩
theorem fits_zero (s k : Nat) : fitsN 0 s k = decide (upN s k ≤ 2048 * 2 ^ k):=by
 unfold fitsN
 have : dnN 0 k = 0:=by unfold dnN; simp
 rw [this,Nat.sub_zero]
theorem rpad_any (s : Nat) (w : World) (hs : s < 4294967296) :
  Calls Try.prog 99 #[.int .u32 s] w fun e' w' => e' = .returned (.tuple #[.int .u32 (padN s),.int .u32 (padA s)]) ∧ ∃ m,w' = w.drewN m:=by
 go_enter Try.func99,Try.ntmps99
 go_wp2
 go_loopw [4] (fun i wr => ∃ k m : Nat,k ≤ 21 ∧ i = .int .u8 k ∧ Hid (expoN 0 s = expoFrom 0 s (21 - k) k) ∧ wr = w.drewN m) (fun i _ => (21 - intOf i).toNat)
 case atStart => exact ⟨0,0,by omega,rfl,rfl,rfl⟩
 case round =>
  obtain ⟨k,m,hk,rfl,HE,rfl⟩:=hrel
  have hd3:=up_whole (t:=s) hk (by omega)
  have hp:=pow_le_21 hk
  have hpw : IntKind.u64.wrap ((2048 : Int) * 2 ^ k) = ((2048 * 2 ^ k : Nat) : Int):=by
   rw [IntKind.wrap_u64,show ((2 : Int) ^ k) = ((2 ^ k : Nat) : Int) by simp]
   generalize 2 ^ k = z at hp
   omega
  have hpw2 : IntKind.u32.wrap ((2 : Int) ^ k) = ((2 ^ k : Nat) : Int):=by
   rw [IntKind.wrap_u32,show ((2 : Int) ^ k) = ((2 ^ k : Nat) : Int) by simp]
   generalize 2 ^ k = z at hp
   omega
  have hz:=fits_zero s k
  obtain ⟨p,hpp⟩ : ∃ p,2048 * 2 ^ k = p:=⟨_,rfl⟩
  obtain ⟨U,hU⟩ : ∃ U,2 ^ k = U:=⟨_,rfl⟩
  obtain ⟨u,hu⟩ : ∃ u,upN s k = u:=⟨_,rfl⟩
  have hra:=fun W => rrounded_any 0 s k W (by omega) (by omega) hk
  rw [hpp,hu] at hz
  rw [hu] at hra hd3
  rw [show dnN 0 k = 0 by unfold dnN; simp] at hra
  rw [hpp] at hpw
  rw [hU] at hpw2
  have HRA:=hide hra
  have HZ:=hide hz
  have HU:=hide hU
  have HU2:=hide hu
  clear hra hpp hu hU hz hp
  by_cases hf : (u : Int) ≤ p
  ·have hft : fitsN 0 s k = true:=by rw [HZ.out]; simp; omega
   have hEk:=expo_here hk HE.out hft
   have HK : Hid (padN s = (if u = 4294967296 then 0 else u) ∧ padA s = (if u = 4294967296 then 0 else U)):=by
    show _ ∧ _
    unfold padN padA; rw [hEk,HU2.out,HU.out]; exact ⟨rfl,rfl⟩
   clear hft hEk
   by_cases c1 : u = 4294967296
   ·have d1 : ((u : Int) == 4294967296) = true:=by rw [c1]; rfl
    have C1:=hide c1
    clear c1
    go_wp2_with (go_at_call 105; refine (HRA.out _).mono ?_; rintro e' w' ⟨rfl,m2,rfl⟩)
    go_ret2
    refine ⟨ret2_both ?_ ?_,_,rfl⟩
    ·rw [HK.out.1,if_pos C1.out]; rfl
    ·rw [HK.out.2,if_pos C1.out]; rfl
   ·have d1 : ((u : Int) == 4294967296) = false:=by simp; omega
    have d2 : (u : Int) < 4294967296:=by omega
    have C1:=hide c1
    clear c1
    go_wp2_with (go_at_call 105; refine (HRA.out _).mono ?_; rintro e' w' ⟨rfl,m2,rfl⟩)
    go_ret2
    refine ⟨ret2_both ?_ ?_,_,rfl⟩
    ·rw [HK.out.1,if_neg C1.out]
    ·rw [HK.out.2,if_neg C1.out]
  ·have hft : fitsN 0 s k = false:=by rw [HZ.out]; simp; omega
   have h21 : k < 21:=by
    rcases Nat.lt_or_ge k 21 with h | h
    ·exact h
    ·obtain rfl : k = 21:=by omega
     rw [fits_21 (by omega)] at hft; cases hft
   have HT : Hid (expoN 0 s = expoFrom 0 s (21 - (k + 1)) (k + 1)):=by
    show _ = _
    rw [HE.out,show 21 - k = (21 - (k + 1)) + 1 by omega,expoFrom,hft]; rfl
   clear hft
   go_wp2_with (go_at_call 105; refine (HRA.out _).mono ?_; rintro e' w' ⟨rfl,m2,rfl⟩)
   go_roundw
   case rel => exact ⟨k + 1,_,by omega,by go_num,HT,rfl⟩
   case measure => simp [intOf]; omega
end Go.Proofs.Ytliidiceljdgmaa
namespace Go.Proofs.Ytliidiceljdgmaa
open Go.RowKit
attribute [local go_sem ↓] Go.wp_at_zero Go.wp_at_succ
theorem rmake_yes (a s p e b t : Nat) (w : World) (ha : a < 4294967296) (hs : s < 4294967296) (h1 : ¬ (255 : Int) < p) (h2 : decide ((4294967296 : Int) < (a : Int) + s) = false)
  (HE : Hid (∀ W,Calls Try.prog 98 #[.int .u32 a,.int .u64 ((a : Int) + s)] W fun e' w' => e' = .returned (.tuple #[.int .u8 e,.int .u16 b,.int .u16 t,.bool true,.bool true]) ∧ ∃ m,w' = W.drewN m)) :
  Calls Try.prog 81 #[.agg #[.int .u32 a,.int .u32 s],.int .u16 p] w fun e' w' => e' = .returned (.tuple #[.agg #[.int .u32 a,.int .u8 e,.int .u16 b,.int .u16 t,.int .u16 p,.int .u16 0,.int .u32 0,.bool true],.bool true]) ∧ Below w.heap.size w w':=by
 go_enter Try.func81,Try.ntmps81
 go_wp2_with fail
 refine (HE.out _).mono ?_
 rintro e' w1 ⟨rfl,m,rfl⟩
 go_wp2
 refine bodyPost_ret (v:=.tuple #[.agg #[.int .u32 a,.int .u8 e,.int .u16 b,.int .u16 t,.int .u16 p,.int .u16 0,.int .u32 0,.bool true],.bool true]) (by simp [results,Try.results81,go_sem]) rfl ⟨rfl,?_⟩
 (repeat (first | (with_reducible exact Below.refl _ _) | (with_reducible refine Below.drew ?_) | (with_reducible refine below_drewN ?_ _) | (with_reducible refine Below.alloc ?_ (by simp <;> omega) _) | (with_reducible refine Below.setCell ?_ (by simp <;> omega) _)))
theorem rmake_no (a s p e b t : Nat) (w : World) (ha : a < 4294967296) (hs : s < 4294967296) (h1 : ¬ (255 : Int) < p) (h2 : decide ((4294967296 : Int) < (a : Int) + s) = false)
  (HE : Hid (∀ W,Calls Try.prog 98 #[.int .u32 a,.int .u64 ((a : Int) + s)] W fun e' w' => e' = .returned (.tuple #[.int .u8 e,.int .u16 b,.int .u16 t,.bool false,.bool true]) ∧ ∃ m,w' = W.drewN m)) :
  Calls Try.prog 81 #[.agg #[.int .u32 a,.int .u32 s],.int .u16 p] w fun e' w' => e' = .returned (.tuple #[.agg #[.int .u32 0,.int .u8 0,.int .u16 0,.int .u16 0,.int .u16 0,.int .u16 0,.int .u32 0,.bool false],.bool false]) ∧ Below w.heap.size w w':=by
 go_enter Try.func81,Try.ntmps81
 go_wp2_with fail
 refine (HE.out _).mono ?_
 rintro e' w1 ⟨rfl,m,rfl⟩
 go_wp2
 refine bodyPost_ret (v:=.tuple #[.agg #[.int .u32 0,.int .u8 0,.int .u16 0,.int .u16 0,.int .u16 0,.int .u16 0,.int .u32 0,.bool false],.bool false]) (by simp [results,Try.results81,go_sem]) rfl ⟨rfl,?_⟩
 (repeat (first | (with_reducible exact Below.refl _ _) | (with_reducible refine Below.drew ?_) | (with_reducible refine below_drewN ?_ _) | (with_reducible refine Below.alloc ?_ (by simp <;> omega) _) | (with_reducible refine Below.setCell ?_ (by simp <;> omega) _)))
theorem rmake_far (a s p : Nat) (w : World) (ha : a < 4294967296) (hs : s < 4294967296) (h1 : ¬ (255 : Int) < p) (h2 : (4294967296 : Int) < (a : Int) + s) :
  Calls Try.prog 81 #[.agg #[.int .u32 a,.int .u32 s],.int .u16 p] w fun e' w' => e' = .returned (.tuple #[.agg #[.int .u32 0,.int .u8 0,.int .u16 0,.int .u16 0,.int .u16 0,.int .u16 0,.int .u32 0,.bool false],.bool false]) ∧ Below w.heap.size w w':=by
 go_enter Try.func81,Try.ntmps81
 go_wp2
 refine bodyPost_ret (v:=.tuple #[.agg #[.int .u32 0,.int .u8 0,.int .u16 0,.int .u16 0,.int .u16 0,.int .u16 0,.int .u32 0,.bool false],.bool false]) (by simp [results,Try.results81,go_sem]) rfl ⟨rfl,?_⟩
 (repeat (first | (with_reducible exact Below.refl _ _) | (with_reducible refine Below.drew ?_) | (with_reducible refine below_drewN ?_ _) | (with_reducible refine Below.alloc ?_ (by simp <;> omega) _) | (with_reducible refine Below.setCell ?_ (by simp <;> omega) _)))
theorem rmake_wide (a s p : Nat) (w : World) (ha : a < 4294967296) (hs : s < 4294967296) (h1 : (255 : Int) < p) :
  Calls Try.prog 81 #[.agg #[.int .u32 a,.int .u32 s],.int .u16 p] w fun e' w' => e' = .returned (.tuple #[.agg #[.int .u32 0,.int .u8 0,.int .u16 0,.int .u16 0,.int .u16 0,.int .u16 0,.int .u32 0,.bool false],.bool false]) ∧ Below w.heap.size w w':=by
 go_enter Try.func81,Try.ntmps81
 go_wp2
 refine bodyPost_ret (v:=.tuple #[.agg #[.int .u32 0,.int .u8 0,.int .u16 0,.int .u16 0,.int .u16 0,.int .u16 0,.int .u32 0,.bool false],.bool false]) (by simp [results,Try.results81,go_sem]) rfl ⟨rfl,?_⟩
 (repeat (first | (with_reducible exact Below.refl _ _) | (with_reducible refine Below.drew ?_) | (with_reducible refine below_drewN ?_ _) | (with_reducible refine Below.alloc ?_ (by simp <;> omega) _) | (with_reducible refine Below.setCell ?_ (by simp <;> omega) _)))
theorem renc_at_end (a s : Nat) (w : World) (ha : a < 4294967296) (h : a + s ≤ 4294967296) :
  Calls Try.prog 98 #[.int .u32 a,.int .u64 ((a : Int) + s)] w fun e' w' => e' = .returned (.tuple #[.int .u8 (encE a (a + s)),.int .u16 (encB a (a + s)),.int .u16 (encT a (a + s)),.bool (encX a (a + s)),.bool true]) ∧ ∃ m,w' = w.drewN m:=by
 have:=rencode_any a (a + s) w ha (by omega)
 rw [show rightN a (a + s) = true by simp [rightN,h],show ((a + s : Nat) : Int) = (a : Int) + s by omega] at this
 exact this
theorem rmake_y (a s p : Nat) (w : World) (ha : a < 4294967296) (hs : s < 4294967296) (h : makeOk a s p = true) :
  Calls Try.prog 81 #[.agg #[.int .u32 a,.int .u32 s],.int .u16 p] w fun e' w' => e' = .returned (.tuple #[.agg #[.int .u32 a,.int .u8 (encE a (a + s)),.int .u16 (encB a (a + s)),.int .u16 (encT a (a + s)),.int .u16 p,.int .u16 0,.int .u32 0,.bool true],.bool true]) ∧ Below w.heap.size w w':=by
 obtain ⟨h1,h2,h3⟩:=makeOk_true h
 refine rmake_yes a s p _ _ _ w ha hs (by omega) (by simp; omega) (fun W => ?_)
 have:=renc_at_end a s W ha h2
 rwa [h3] at this
theorem rmake_n (a s p : Nat) (w : World) (ha : a < 4294967296) (hs : s < 4294967296) (h : makeOk a s p = false) :
  Calls Try.prog 81 #[.agg #[.int .u32 a,.int .u32 s],.int .u16 p] w fun e' w' => e' = .returned (.tuple #[.agg #[.int .u32 0,.int .u8 0,.int .u16 0,.int .u16 0,.int .u16 0,.int .u16 0,.int .u32 0,.bool false],.bool false]) ∧ Below w.heap.size w w':=by
 by_cases h1 : (255 : Int) < p
 ·exact rmake_wide a s p w ha hs h1
 ·by_cases h2 : (4294967296 : Int) < (a : Int) + s
  ·exact rmake_far a s p w ha hs h1 h2
  ·have h3 : encX a (a + s) = false:=by
    simp only [rr, tt, makeOk,Bool.and_eq_false_iff,decide_eq_false_iff_not] at h
    rcases h with h | h | h
    ·omega
    ·omega
    ·exact h
   refine rmake_no a s p (encE a (a + s)) (encB a (a + s)) (encT a (a + s)) w ha hs h1 (by simp; omega) (fun W => ?_)
   have:=renc_at_end a s W ha (by omega)
   rwa [h3] at this
end Go.Proofs.Ytliidiceljdgmaa
namespace Go.Proofs.Ytliidiceljdgmaa
open Go.RowKit
attribute [local go_sem ↓] Go.wp_at_zero Go.wp_at_succ
def accB (b : Nat → Bool) : Nat → Bool
 | 0 => true
 | k + 1 => accB b k && b k
structure Asked (w : World) (g n : Nat) (F : Nat → FuncId) (fi ca : Nat → Array Value) (b : Nat → Bool) : Prop where
 cell : ∀ j,j < n → w.cell? ⟨g,j,none⟩ = some (.func (.func (F j)) (fi j) (ca j))
 calls : ∀ j,j < n → ∀ W,Below w.heap.size w W → Calls Try.prog (F j) (fi j ++ ca j) W fun e W' => e = .returned (.bool (b j)) ∧ Below W.heap.size W W'
 runs : ∀ j,j < n → ∀ W,(callFunc (F j) (fi j ++ ca j)).run Try.prog W = .ok (.enter (F j) (fi j ++ ca j)) W
 lt : g < w.heap.size
def MadeA (w wr : World) (cC cE cB cT cP cY cR : Nat) (n : Nat) (b : Nat → Bool) (i : Value) : Prop :=
 ∃ k : Nat,k ≤ n ∧ i = .int .i64 k ∧ Blk wr w.heap.size 33 #[.int .u32 cC,.int .u8 cE,.int .u16 cB,.int .u16 cT,.int .u16 cP,.int .u16 cY,.int .u32 cR,.bool (accB b k)] ∧
  Blk wr (w.heap.size + 1) 33 #[.int .u32 0,.int .u8 0,.int .u16 0,.int .u16 0,.int .u16 0,.int .u16 0,.int .u32 0,.bool false] ∧ Below w.heap.size w wr
set_option maxHeartbeats 1000000 in
theorem made_any (cC cE cB cT cP cY cR : Nat) (cV : Bool) (g n : Nat) (F : Nat → FuncId) (fi ca : Nat → Array Value) (b : Nat → Bool) (w : World) (hn : n ≤ 1000) (h : Asked w g n F fi ca b) :
  Calls Try.prog 86 #[.agg #[.int .u32 cC,.int .u8 cE,.int .u16 cB,.int .u16 cT,.int .u16 cP,.int .u16 cY,.int .u32 cR,.bool cV],.slice (some ⟨g,0,none⟩) n n] w fun e w' => e = .returned (.agg #[.int .u32 cC,.int .u8 cE,.int .u16 cB,.int .u16 cT,.int .u16 cP,.int .u16 cY,.int .u32 cR,.bool (accB b n)]) ∧ Below w.heap.size w w':=by
 have H:=hide h; clear h
 go_enter Try.func86,Try.ntmps86
 go_wp2
 go_loopw [10] (fun i wr => MadeA w wr cC cE cB cT cP cY cR n b i) (fun i _ => n - (intOf i).toNat)
 case atStart => exact ⟨0,by omega,rfl,Blk.new1 w _ _ _,Blk.new2 w _ _ _,((Below.refl _ _).alloc (Nat.le_refl _) _).alloc (by simp) _⟩
 case round =>
  obtain ⟨k,hk,rfl,hq1,hq2,hb⟩:=hrel
  have f7:=hq1.cell 7
  have z7:=hq1.frozen 7
  have HQ1:=hide hq1
  have HQ2:=hide hq2
  have HB:=hide hb
  simp at f7
  by_cases hlt : k < n
  ·have cg:=(hb.cell (p:=⟨g,k,none⟩) H.out.lt).trans (H.out.cell k hlt)
   have hrun:=H.out.runs k hlt
   have HC:=hide (H.out.calls k hlt wr hb)
   clear hq1 hq2 hb
   obtain ⟨acc,hacc⟩ : ∃ a,accB b k = a:=⟨_,rfl⟩
   have HA : Hid (accB b (k + 1) = (acc && b k)):=by show _ = _; rw [accB,hacc]
   rw [hacc] at f7 HQ1
   clear hacc
   have i1 : (k : Int) < n:=by omega
   cases acc with
   | true =>
    go_wp2_with fail
    refine HC.out.mono ?_
    rintro e w2 ⟨rfl,hb2⟩
    have q1:=HQ1.out.below hb2 HQ1.out.lt
    have q2:=HQ2.out.below hb2 HQ2.out.lt
    have k2:=HB.out.trans (hb2.mono HB.out.size)
    have g7:=q1.cell 7
    have y7:=q1.frozen 7
    simp at g7
    rw [Bool.true_and] at HA
    obtain ⟨r,hr⟩ : ∃ r,b k = r:=⟨_,rfl⟩
    rw [hr] at HA ⊢
    have R1 : Hid (Blk (w2.setCell ⟨w.heap.size,7,none⟩ (.bool r)) w.heap.size 33 #[.int .u32 cC,.int .u8 cE,.int .u16 cB,.int .u16 cT,.int .u16 cP,.int .u16 cY,.int .u32 cR,.bool r]):=q1.set_ 7 _
    have R2 : Hid (Blk (w2.setCell ⟨w.heap.size,7,none⟩ (.bool r)) (w.heap.size + 1) 33 #[.int .u32 0,.int .u8 0,.int .u16 0,.int .u16 0,.int .u16 0,.int .u16 0,.int .u32 0,.bool false]):=q2.far (p:=⟨w.heap.size,7,none⟩) (show w.heap.size + 1 ≠ w.heap.size by omega) _
    have R3 : Hid (Below w.heap.size w (w2.setCell ⟨w.heap.size,7,none⟩ (.bool r))):=k2.setCell (p:=⟨w.heap.size,7,none⟩) (Nat.le_refl _) _
    clear hb2 q1 q2 k2 hr hrun
    go_wp2
    go_roundw
    case rel => exact ⟨k + 1,by omega,by go_num,by rw [HA.out]; exact R1.out,R2.out,R3.out⟩
    case measure => simp [intOf]; omega
   | false =>
    rw [Bool.false_and] at HA
    have R1 : Hid (Blk (wr.setCell ⟨w.heap.size,7,none⟩ (.bool false)) w.heap.size 33 #[.int .u32 cC,.int .u8 cE,.int .u16 cB,.int .u16 cT,.int .u16 cP,.int .u16 cY,.int .u32 cR,.bool false]):=HQ1.out.set_ 7 _
    have R2 : Hid (Blk (wr.setCell ⟨w.heap.size,7,none⟩ (.bool false)) (w.heap.size + 1) 33 #[.int .u32 0,.int .u8 0,.int .u16 0,.int .u16 0,.int .u16 0,.int .u16 0,.int .u32 0,.bool false]):=HQ2.out.far (p:=⟨w.heap.size,7,none⟩) (show w.heap.size + 1 ≠ w.heap.size by omega) _
    have R3 : Hid (Below w.heap.size w (wr.setCell ⟨w.heap.size,7,none⟩ (.bool false))):=HB.out.setCell (p:=⟨w.heap.size,7,none⟩) (Nat.le_refl _) _
    clear hrun
    go_wp2
    go_roundw
    case rel => exact ⟨k + 1,by omega,by go_num,by rw [HA.out]; exact R1.out,R2.out,R3.out⟩
    case measure => simp [intOf]; omega
  ·obtain rfl : k = n:=by omega
   obtain ⟨acc,hacc⟩ : ∃ a,accB b k = a:=⟨_,rfl⟩
   rw [hacc] at HQ1 f7
   have HACC:=hide hacc
   have q1:=HQ1.out
   have q2:=HQ2.out
   clear hq1 hq2 hb hacc
   have c0:=q1.cell 0
   have d0:=q2.cell 0
   have z0:=q2.frozen 0
   have c1:=q1.cell 1
   have d1:=q2.cell 1
   have z1:=q2.frozen 1
   have c2:=q1.cell 2
   have d2:=q2.cell 2
   have z2:=q2.frozen 2
   have c3:=q1.cell 3
   have d3:=q2.cell 3
   have z3:=q2.frozen 3
   have c4:=q1.cell 4
   have d4:=q2.cell 4
   have z4:=q2.frozen 4
   have c5:=q1.cell 5
   have d5:=q2.cell 5
   have z5:=q2.frozen 5
   have c6:=q1.cell 6
   have d6:=q2.cell 6
   have z6:=q2.frozen 6
   have c7:=q1.cell 7
   have d7:=q2.cell 7
   have z7:=q2.frozen 7
   simp at c0 c1 c2 c3 c4 c5 c6 c7 d0 d1 d2 d3 d4 d5 d6 d7
   clear q1 q2
   go_wp2
   refine bodyPost_ret (v:=.agg #[.int .u32 cC,.int .u8 cE,.int .u16 cB,.int .u16 cT,.int .u16 cP,.int .u16 cY,.int .u32 cR,.bool acc]) (by simp [results,Try.results86,go_sem,d0,d1,d2,d3,d4,d5,d6,d7]) rfl ⟨by rw [HACC.out],?_⟩
   repeat (refine Below.setCell ?_ (by simp <;> omega) _)
   exact HB.out
end Go.Proofs.Ytliidiceljdgmaa
namespace Go.Proofs.Ytliidiceljdgmaa
open Go.RowKit
attribute [local go_sem ↓] Go.wp_at_zero Go.wp_at_succ
def freeN (cY : Nat) (cV : Bool) : Bool:=cV && decide (cY = 0)
theorem free_any (cC cE cB cT cP cY cR : Nat) (cV : Bool) (w : World) :
  Calls Try.prog 85 #[.agg #[.int .u32 cC,.int .u8 cE,.int .u16 cB,.int .u16 cT,.int .u16 cP,.int .u16 cY,.int .u32 cR,.bool cV]] w fun e w' => e = .returned (.bool (freeN cY cV)) ∧ Below w.heap.size w w':=by
 have hf : freeN cY cV = (cV && ((cY : Int) == 0)):=by
  unfold freeN
  rw [show decide (cY = 0) = ((cY : Int) == 0) by rw [Bool.eq_iff_iff]; simp]
 rw [hf]
 clear hf
 cases cV with
 | false =>
  rw [Bool.false_and]
  go_enter Try.func85,Try.ntmps85
  go_wp2
  go_ret
  exact ⟨rfl,by (repeat (first | (with_reducible exact Below.refl _ _) | (with_reducible refine Below.drew ?_) | (with_reducible refine below_drewN ?_ _) | (with_reducible refine Below.alloc ?_ (by simp <;> omega) _) | (with_reducible refine Below.setCell ?_ (by simp <;> omega) _)))⟩
 | true =>
  rw [Bool.true_and]
  go_enter Try.func85,Try.ntmps85
  go_wp2
  go_ret
  exact ⟨rfl,by (repeat (first | (with_reducible exact Below.refl _ _) | (with_reducible refine Below.drew ?_) | (with_reducible refine below_drewN ?_ _) | (with_reducible refine Below.alloc ?_ (by simp <;> omega) _) | (with_reducible refine Below.setCell ?_ (by simp <;> omega) _)))⟩
theorem Blk.newAt {W : World} {g : Nat} (h : W.heap.size = g) (t : TypeId) (cs : Array Value) : Blk (W.alloc (.cells cs t)) g t cs:=by subst h; exact Blk.new W t cs
end Go.Proofs.Ytliidiceljdgmaa
namespace Go.Proofs.Ytliidiceljdgmaa
open Go.RowKit
attribute [local go_sem ↓] Go.wp_at_zero Go.wp_at_succ
theorem made2 (cC cE cB cT cP cY cR : Nat) (cV : Bool) (w : World) (g : Nat) (f1 f2 : FuncId) (i1 a1 i2 a2 : Array Value) (b1 b2 : Bool) (h : Blk w g 34 #[.func (.func f1) i1 a1,.func (.func f2) i2 a2])
  (r1 : ∀ W,(callFunc f1 (i1 ++ a1)).run Try.prog W = .ok (.enter f1 (i1 ++ a1)) W) (r2 : ∀ W,(callFunc f2 (i2 ++ a2)).run Try.prog W = .ok (.enter f2 (i2 ++ a2)) W)
  (c1 : ∀ W,Below w.heap.size w W → Calls Try.prog f1 (i1 ++ a1) W fun e W' => e = .returned (.bool b1) ∧ Below W.heap.size W W')
  (c2 : ∀ W,Below w.heap.size w W → Calls Try.prog f2 (i2 ++ a2) W fun e W' => e = .returned (.bool b2) ∧ Below W.heap.size W W') :
  Calls Try.prog 86 #[.agg #[.int .u32 cC,.int .u8 cE,.int .u16 cB,.int .u16 cT,.int .u16 cP,.int .u16 cY,.int .u32 cR,.bool cV],.slice (some ⟨g,0,none⟩) 2 2] w fun e w' => e = .returned (.agg #[.int .u32 cC,.int .u8 cE,.int .u16 cB,.int .u16 cT,.int .u16 cP,.int .u16 cY,.int .u32 cR,.bool (b1 && b2)]) ∧ Below w.heap.size w w':=by
 have:=made_any cC cE cB cT cP cY cR cV g 2 (fun j => if j = 0 then f1 else f2) (fun j => if j = 0 then i1 else i2) (fun j => if j = 0 then a1 else a2) (fun j => if j = 0 then b1 else b2) w (by omega)
  ⟨fun j hj => by
   have hj' : j = 0 ∨ j = 1:=by omega
   rcases hj' with rfl | rfl
   ·exact h.cell 0
   ·exact h.cell 1,
     fun j hj W hW => by
   have hj' : j = 0 ∨ j = 1:=by omega
   rcases hj' with rfl | rfl
   ·exact c1 W hW
   ·exact c2 W hW,
     fun j hj W => by
   have hj' : j = 0 ∨ j = 1:=by omega
   rcases hj' with rfl | rfl
   ·exact r1 W
   ·exact r2 W,h.lt⟩
 exact this
theorem addr1_any (cC cE cB cT cP cY cR : Nat) (cV : Bool) (gf gc : Nat) (w : World) (hf : Blk w gf 141 #[.func (.func 85) #[] #[]]) (hc : Blk w gc 33 #[.int .u32 cC,.int .u8 cE,.int .u16 cB,.int .u16 cT,.int .u16 cP,.int .u16 cY,.int .u32 cR,.bool cV]) :
  Calls Try.prog 87 #[.pointer (some ⟨gf,0,none⟩),.pointer (some ⟨gc,0,none⟩)] w fun e w' => e = .returned (.bool (freeN cY cV)) ∧ Below w.heap.size w w':=by
 have c0:=hf.cell 0
 simp at c0
 have d0:=hc.cell 0
 have d1:=hc.cell 1
 have d2:=hc.cell 2
 have d3:=hc.cell 3
 have d4:=hc.cell 4
 have d5:=hc.cell 5
 have d6:=hc.cell 6
 have d7:=hc.cell 7
 simp at d0 d1 d2 d3 d4 d5 d6 d7
 clear hf hc
 go_enter Try.func87,Try.ntmps87
 go_wp2_with fail
 refine (free_any cC cE cB cT cP cY cR cV _).mono ?_
 rintro e w1 ⟨rfl,hb1⟩
 have HB1:=hide hb1; clear hb1
 go_wp2
 go_ret
 exact ⟨rfl,HB1.out⟩
theorem addr2_any (cC cE cB cT cP cY cR : Nat) (cV : Bool) (to gc gt : Nat) (w : World) (cl : capB cC cE cB cT cP cY cR) (hto : to < 4294967296) (hc : Blk w gc 33 #[.int .u32 cC,.int .u8 cE,.int .u16 cB,.int .u16 cT,.int .u16 cP,.int .u16 cY,.int .u32 cR,.bool cV]) (ht : Blk w gt 30 #[.int .u32 to]) :
  Calls Try.prog 88 #[.pointer (some ⟨gc,0,none⟩),.pointer (some ⟨gt,0,none⟩)] w fun e w' => e = .returned (.bool (keepsN cE cB cT cC to)) ∧ Below w.heap.size w w':=by
 have hk:=fun W => keeps_any cE cB cT cC to W cl.2.1 cl.2.2.1 cl.2.2.2.1 cl.1 hto
 generalize keepsN cE cB cT cC to = k at *
 have HK:=hide hk
 have c0:=ht.cell 0
 simp at c0
 have d0:=hc.cell 0
 have d1:=hc.cell 1
 have d2:=hc.cell 2
 have d3:=hc.cell 3
 simp at d0 d1 d2 d3
 clear hk ht hc
 go_enter Try.func88,Try.ntmps88
 go_wp2_with fail
 refine (HK.out _).mono ?_
 rintro e w1 ⟨rfl,hb1⟩
 have HB1:=hide hb1; clear hb1
 go_wp2
 go_ret
 exact ⟨rfl,HB1.out⟩
theorem addr_any (cC cE cB cT cP cY cR : Nat) (cV : Bool) (to : Nat) (w : World) (cl : capB cC cE cB cT cP cY cR) (hto : to < 4294967296) :
  Calls Try.prog 65 #[.agg #[.int .u32 cC,.int .u8 cE,.int .u16 cB,.int .u16 cT,.int .u16 cP,.int .u16 cY,.int .u32 cR,.bool cV],.int .u32 to] w fun e w' => e = .returned (.agg #[.int .u32 to,.int .u8 cE,.int .u16 cB,.int .u16 cT,.int .u16 cP,.int .u16 cY,.int .u32 cR,.bool (freeN cY cV && keepsN cE cB cT cC to)]) ∧ Below w.heap.size w w':=by
 go_enter Try.func65,Try.ntmps65
 go_wp2_with fail
 refine (made2 to cE cB cT cP cY cR cV _ _ 87 88 #[] #[.pointer (some ⟨w.heap.size + 1 + 1 + 1 + 1,0,none⟩),.pointer (some ⟨w.heap.size,0,none⟩)] #[] #[.pointer (some ⟨w.heap.size,0,none⟩),.pointer (some ⟨w.heap.size + 1,0,none⟩)] (freeN cY cV) (keepsN cE cB cT cC to) (Blk.newAt (by simp) _ _) (fun W => by kernel_rfl) (fun W => by kernel_rfl)
  (fun W hW => addr1_any cC cE cB cT cP cY cR cV (w.heap.size + 1 + 1 + 1 + 1) w.heap.size W (Blk.below (by (repeat (first | (with_reducible exact Blk.new _ _ _) | (with_reducible refine Blk.drewN ?_ _) | (with_reducible refine Blk.drew ?_) | exact Blk.newAt (by simp) _ _ | (with_reducible refine Blk.alloc ?_ _)))) hW (by first | (simp; done) | (simp; omega))) (Blk.below (by (repeat (first | (with_reducible exact Blk.new _ _ _) | (with_reducible refine Blk.drewN ?_ _) | (with_reducible refine Blk.drew ?_) | exact Blk.newAt (by simp) _ _ | (with_reducible refine Blk.alloc ?_ _)))) hW (by first | (simp; done) | (simp; omega))))
  (fun W hW => addr2_any cC cE cB cT cP cY cR cV to w.heap.size (w.heap.size + 1) W cl hto (Blk.below (by (repeat (first | (with_reducible exact Blk.new _ _ _) | (with_reducible refine Blk.drewN ?_ _) | (with_reducible refine Blk.drew ?_) | exact Blk.newAt (by simp) _ _ | (with_reducible refine Blk.alloc ?_ _)))) hW (by first | (simp; done) | (simp; omega))) (Blk.below (by (repeat (first | (with_reducible exact Blk.new _ _ _) | (with_reducible refine Blk.drewN ?_ _) | (with_reducible refine Blk.drew ?_) | exact Blk.newAt (by simp) _ _ | (with_reducible refine Blk.alloc ?_ _)))) hW (by first | (simp; done) | (simp; omega))))).mono ?_
 rintro e w2 ⟨rfl,hb2⟩
 obtain ⟨hc2,hf2⟩:=bcell hb2
 have hz2:=hb2.size
 simp at hz2
 have HB2:=hide hb2; clear hb2
 go_wp2
 refine bodyPost_ret (v:=.agg #[.int .u32 to,.int .u8 cE,.int .u16 cB,.int .u16 cT,.int .u16 cP,.int .u16 cY,.int .u32 cR,.bool (freeN cY cV && keepsN cE cB cT cC to)]) (by simp [results,Try.results65,go_sem,hc2]) rfl ⟨rfl,?_⟩
 repeat (refine Below.setCell ?_ (by simp <;> omega) _)
 exact (Below.trans (by (repeat (first | (with_reducible exact Below.refl _ _) | (with_reducible refine Below.drew ?_) | (with_reducible refine below_drewN ?_ _) | (with_reducible refine Below.alloc ?_ (by simp <;> omega) _) | (with_reducible refine Below.setCell ?_ (by simp <;> omega) _)))) (HB2.out.mono (by simp; omega)))
end Go.Proofs.Ytliidiceljdgmaa
namespace Go.Proofs.Ytliidiceljdgmaa
open Go.RowKit
theorem up_mul (a k j : Nat) (h : j ≤ k) : upN (a * 2 ^ k) j = a * 2 ^ k:=by
 refine Nat.le_antisymm ?_ (up_ge _ _)
 have e : a * 2 ^ k = a * 2 ^ (k - j) * 2 ^ j:=by rw [Nat.mul_assoc,← Nat.pow_add,Nat.sub_add_cancel h]
 rw [e]
 exact up_least (Nat.le_refl _)
end Go.Proofs.Ytliidiceljdgmaa
namespace Go.Proofs.Ytliidiceljdgmaa
open Go.RowKit
open Sy
set_option maxRecDepth 100000
def mA (a s p : Nat) : Nat:=if makeOk a s p then a else 0
def mE (a s p : Nat) : Nat:=if makeOk a s p then encE a (a + s) else 0
def mB (a s p : Nat) : Nat:=if makeOk a s p then encB a (a + s) else 0
def mT (a s p : Nat) : Nat:=if makeOk a s p then encT a (a + s) else 0
def mP (a s p : Nat) : Nat:=if makeOk a s p then p else 0
def mV (a s p : Nat) : Bool:=makeOk a s p
def makeV (a s p : Nat) : Value:=.tuple ⟨[.agg ⟨[.int .u32 (mA a s p : Nat),.int .u8 (mE a s p : Nat),.int .u16 (mB a s p : Nat),.int .u16 (mT a s p : Nat),.int .u16 (mP a s p : Nat),.int .u16 0,.int .u32 0,.bool (mV a s p)]⟩,.bool (mV a s p)]⟩
def makeZ (a s p : Int) : Con:=Con.pure [.agg ⟨[.int .u32 a,.int .u32 s]⟩,.int .u16 p] (makeV a.toNat s.toNat p.toNat)
def makeHyp (a s p : Int) : Prop:=0 ≤ a ∧ a < 4294967296 ∧ 0 ≤ s ∧ s < 4294967296 ∧ 0 ≤ p
theorem make_con (a s p : Int) (h : makeHyp a s p) : ConOk Try.prog 77 3 (makeZ a s p):=by
 obtain ⟨h1,h2,h3,h4,h5⟩:=h
 obtain ⟨a,rfl⟩:=Int.eq_ofNat_of_zero_le h1
 obtain ⟨s,rfl⟩:=Int.eq_ofNat_of_zero_le h3
 obtain ⟨p,rfl⟩:=Int.eq_ofNat_of_zero_le h5
 refine conOk_pure (d:=1) (enters_b ar_names (by kernel_rfl)) (fun u hu => ?_) rfl fun w => ?_
 ·simp only [rr, tt, List.mem_cons,List.not_mem_nil,or_false] at hu
  rcases hu with rfl | rfl <;> rfl
 ·cases hm : makeOk a s p
  ·have:=make_n a s p w (by omega) (by omega) hm
   simp only [rr, tt, makeV,mA,mE,mB,mT,mP,mV,Int.toNat_natCast,hm,Bool.false_eq_true,if_false]
   exact this
  ·have:=make_y a s p w (by omega) (by omega) hm
   simp only [rr, tt, makeV,mA,mE,mB,mT,mP,mV,Int.toNat_natCast,hm,if_true]
   exact this
def adV (c e b t y : Nat) (v : Bool) (to : Nat) : Bool:=freeN y v && keepsN e b t c to
def addrZ (c e b t p y r : Int) (v : Bool) (to : Int) : Con:=Con.pure [.agg ⟨[.int .u32 c,.int .u8 e,.int .u16 b,.int .u16 t,.int .u16 p,.int .u16 y,.int .u32 r,.bool v]⟩,.int .u32 to] (.agg ⟨[.int .u32 to,.int .u8 e,.int .u16 b,.int .u16 t,.int .u16 p,.int .u16 y,.int .u32 r,.bool (adV c.toNat e.toNat b.toNat t.toNat y.toNat v to.toNat)]⟩)
def addrHyp (c e b t p y r to : Int) : Prop:=0 ≤ c ∧ c < 4294967296 ∧ 0 ≤ e ∧ e < 256 ∧ 0 ≤ b ∧ b < 65536 ∧ 0 ≤ t ∧ t < 65536 ∧ 0 ≤ p ∧ p < 65536 ∧ 0 ≤ y ∧ y < 65536 ∧ 0 ≤ r ∧ r < 4294967296 ∧ 0 ≤ to ∧ to < 4294967296
theorem addr_con (c e b t p y r : Int) (v : Bool) (to : Int) (h : addrHyp c e b t p y r to) : ConOk Try.prog 65 3 (addrZ c e b t p y r v to):=by
 obtain ⟨h1,h2,h3,h4,h5,h6,h7,h8,h9,h10,h11,h12,h13,h14,h15,h16⟩:=h
 obtain ⟨c,rfl⟩:=Int.eq_ofNat_of_zero_le h1
 obtain ⟨e,rfl⟩:=Int.eq_ofNat_of_zero_le h3
 obtain ⟨b,rfl⟩:=Int.eq_ofNat_of_zero_le h5
 obtain ⟨t,rfl⟩:=Int.eq_ofNat_of_zero_le h7
 obtain ⟨p,rfl⟩:=Int.eq_ofNat_of_zero_le h9
 obtain ⟨y,rfl⟩:=Int.eq_ofNat_of_zero_le h11
 obtain ⟨r,rfl⟩:=Int.eq_ofNat_of_zero_le h13
 obtain ⟨to,rfl⟩:=Int.eq_ofNat_of_zero_le h15
 refine conOk_pure (d:=1) (enters_b ar_names (by kernel_rfl)) (fun u hu => ?_) rfl fun w => ?_
 ·simp only [rr, tt, List.mem_cons,List.not_mem_nil,or_false] at hu
  rcases hu with rfl | rfl <;> rfl
 ·exact addr_any c e b t p y r v to w (by unfold capB; omega) (by omega)
end Go.Proofs.Ytliidiceljdgmaa
namespace Go.Proofs.Ytliidiceljdgmaa
open Go.RowKit
open Sy
set_option maxRecDepth 100000
def selMk : SelC:=fun f args _ => bif Nat.beq f 77 then
 match args with
 | [.agg ⟨[.int .u32 a,.int .u32 s]⟩,.int .u16 p] => some (makeZ a s p,[],makeHyp a s p)
 | _ => none
 else bif Nat.beq f 65 then
 match args with
 | [.agg ⟨[.int .u32 c,.int .u8 e,.int .u16 b,.int .u16 t,.int .u16 p,.int .u16 y,.int .u32 r,.bool v]⟩,.int .u32 to] => some (addrZ c e b t p y r v to,[],addrHyp c e b t p y r to)
 | _ => none
 else none
theorem selMk_ok : SelOk Try.prog 3 selMk:=by
 intro f args s c ρ q h hq
 unfold selMk at h
 cases h1 : Nat.beq f 77 <;> rw [h1] at h
 ·simp only [rr, tt, cond_false] at h
  obtain ⟨h2,h3⟩:=bif_some h
  have h2:=eB h2
  subst h2
  split at h3
  ·cases h3; exact addr_con _ _ _ _ _ _ _ _ _ hq
  ·cases h3
 ·have h2:=eB h1
  subst h2
  simp only [rr, tt, cond_true] at h
  split at h
  ·cases h; exact make_con _ _ _ hq
  ·cases h
end Go.Proofs.Ytliidiceljdgmaa
namespace Go.Proofs.Ytliidiceljdgmaa
open Go.RowKit
open Sy
set_option maxRecDepth 100000
def gA (b a s p : Nat) : Nat:=if 0 < b then mA a s p else 0
def gE (b a s p : Nat) : Nat:=if 0 < b then mE a s p else 0
def gB (b a s p : Nat) : Nat:=if 0 < b then mB a s p else 0
def gT (b a s p : Nat) : Nat:=if 0 < b then mT a s p else 0
def gP (b a s p : Nat) : Nat:=if 0 < b then mP a s p else 0
def gV (b a s p : Nat) : Bool:=if 0 < b then mV a s p else false
def g8 (b a s p : Nat) : List Value:=[.int .u32 (gA b a s p : Nat),.int .u8 (gE b a s p : Nat),.int .u16 (gB b a s p : Nat),.int .u16 (gT b a s p : Nat),.int .u16 (gP b a s p : Nat),.int .u16 0,.int .u32 0,.bool (gV b a s p)]
end Go.Proofs.Ytliidiceljdgmaa
namespace Go.Proofs.Ytliidiceljdgmaa
open Go.RowKit Sy
def idxI (bs : List Bool) (v : Bool) (cap k : Nat) : Sf:=⟨65,[(0,.slice (some ⟨64,0,none⟩) bs.length cap),(1,.bool v),(7,.int .i64 (bs.length : Nat)),(8,.int .i64 (k : Nat))],[(64,⟨false,none,bools bs,none⟩)],[]⟩
structure Rl where
 at_ : Nat
 code : Bool
 off : Nat
 size : Nat
 perms : Nat
 typ : Nat
def relC (x : Rl) : List Value:=[.int .u32 (x.at_ : Int),.bool x.code,.int .u32 (x.off : Int),.int .u32 (x.size : Int),.int .u16 (x.perms : Int),.int .u16 (x.typ : Int)]
def rels (xs : List Rl) : List Value:=xs.flatMap relC
def imgV (pages stack types : Int) (nc nr ns : Nat) (data : List UInt8) : Value :=
 .agg ⟨[.int .i64 pages,.int .i64 stack,.int .i64 types,.slice (some ⟨64,0,none⟩) nc (big + 64),.string ⟨⟨data⟩⟩,.slice (some ⟨65,0,none⟩) nr (big + 65),.slice (some ⟨66,0,none⟩) ns (big + 66)]⟩
def layS (rs : List Rl) (starts : List Nat) (T : List (Nat × Bool)) : St:=⟨67,[(65,⟨false,some (0,0),rels rs,none⟩),(66,⟨false,some (0,0),u32s starts,none⟩)],[],0,T,0,True⟩
def imgL (pages stack types : Int) (nc nr ns : Nat) (data : List UInt8) : List Value :=
 [.int .i64 pages,.int .i64 stack,.int .i64 types,.slice (some ⟨64,0,none⟩) nc (big + 64),.string ⟨⟨data⟩⟩,.slice (some ⟨65,0,none⟩) nr (big + 65),.slice (some ⟨66,0,none⟩) ns (big + 66)]
def stI (pages stack types : Int) (nc nr : Nat) (data : List UInt8) (starts : List Nat) (k : Nat) : Sf :=
 ⟨71,[(0,.slice (some ⟨66,0,none⟩) starts.length (big + 66)),(1,.func (.func 46) ⟨[]⟩ ⟨[.pointer (some ⟨67,0,none⟩)]⟩),(7,.int .i64 (starts.length : Nat)),(8,.int .i64 (k : Nat))],
  [(66,⟨false,some (0,0),u32s starts,none⟩),(67,⟨false,none,imgL pages stack types nc nr starts.length data,none⟩)],[]⟩
def stF (j : Nat) : Sf:=⟨71,[(4,.int .i64 (j : Nat))],[],[]⟩
def stN : Sf:=⟨71,[],[],[]⟩
end Go.Proofs.Ytliidiceljdgmaa
namespace Go.Proofs.Ytliidiceljdgmaa
open Go.RowKit
open Sy
def rl0 (rs : List Rl) (k : Nat) : Rl:=rs.getD k ⟨0,false,0,0,0,0⟩
theorem getD'_append (d : Value) : ∀ (a b : List Value) (i : Nat),getD' d (a ++ b) (a.length + i) = getD' d b i
 | [],b,i => by simp
 | x :: a,b,i => by
  have:=getD'_append d a b i
  rw [show (x :: a).length + i = (a.length + i) + 1 by simp; omega]
  exact this
theorem rels_cons (x : Rl) (rs : List Rl) : rels (x :: rs) = relC x ++ rels rs:=by simp [rels]
theorem rels_len (rs : List Rl) : (rels rs).length = rs.length * 6:=by
 induction rs with
 | nil => rfl
 | cons x rs ih => rw [rels_cons,List.length_append,ih]; simp [relC]; omega
theorem rels_get : ∀ (rs : List Rl) (k j : Nat),k < rs.length → j < 6 → getD' undef (rels rs) (k * 6 + j) = getD' undef (relC (rl0 rs k)) j
 | [],k,j,h,_ => by simp at h
 | x :: rs,0,j,_,hj => by
  rw [rels_cons]
  obtain rfl | rfl | rfl | rfl | rfl | rfl : j = 0 ∨ j = 1 ∨ j = 2 ∨ j = 3 ∨ j = 4 ∨ j = 5:=by omega
  all_goals rfl
 | x :: rs,k + 1,j,h,hj => by
  rw [rels_cons,show (k + 1) * 6 + j = (relC x).length + (k * 6 + j) by simp [relC]; omega,getD'_append]
  exact rels_get rs k j (by simp at h; omega) hj
theorem rels_0 {rs : List Rl} {k : Nat} (h : k < rs.length) : intOf' (getD' undef (rels rs) (k * 6)) = ((rl0 rs k).at_ : Int):=by
 have:=rels_get rs k 0 h (by omega); rw [Nat.add_zero] at this; rw [this]; rfl
theorem rels_1 {rs : List Rl} {k : Nat} (h : k < rs.length) : boolOf' (getD' undef (rels rs) (k * 6 + 1)) = (rl0 rs k).code:=by rw [rels_get rs k 1 h (by omega)]; rfl
theorem rels_2 {rs : List Rl} {k : Nat} (h : k < rs.length) : intOf' (getD' undef (rels rs) (k * 6 + 2)) = ((rl0 rs k).off : Int):=by rw [rels_get rs k 2 h (by omega)]; rfl
theorem rels_3 {rs : List Rl} {k : Nat} (h : k < rs.length) : intOf' (getD' undef (rels rs) (k * 6 + 3)) = ((rl0 rs k).size : Int):=by rw [rels_get rs k 3 h (by omega)]; rfl
theorem rels_4 {rs : List Rl} {k : Nat} (h : k < rs.length) : intOf' (getD' undef (rels rs) (k * 6 + 4)) = ((rl0 rs k).perms : Int):=by rw [rels_get rs k 4 h (by omega)]; rfl
theorem rels_5 {rs : List Rl} {k : Nat} (h : k < rs.length) : intOf' (getD' undef (rels rs) (k * 6 + 5)) = ((rl0 rs k).typ : Int):=by rw [rels_get rs k 5 h (by omega)]; rfl
theorem rels_has {rs : List Rl} (n : Nat) : hasN n (rels rs) = decide (n ≤ rs.length * 6):=by
 rw [Bool.eq_iff_iff,hasN_iff,rels_len]; simp
theorem rels_like {rs : List Rl} {k : Nat} (h : k < rs.length) (a c d e f : Int) (b : Bool) : isLikeL [.int .u32 a,.bool b,.int .u32 c,.int .u32 d,.int .u16 e,.int .u16 f] (rels rs) (k * 6) = true:=by
 have h0:=rels_get rs k 0 h (by omega)
 rw [Nat.add_zero] at h0
 simp only [rr, tt, isLikeL,Nat.add_assoc,Nat.reduceAdd,h0,rels_get rs k 1 h (by omega),rels_get rs k 2 h (by omega),rels_get rs k 3 h (by omega),rels_get rs k 4 h (by omega),rels_get rs k 5 h (by omega)]
 rfl
theorem rels_like1 {rs : List Rl} {k : Nat} (h : k < rs.length) (a : Int) : isLikeL [.int .u32 a] (rels rs) (k * 6) = true:=by
 have h0:=rels_get rs k 0 h (by omega)
 rw [Nat.add_zero] at h0
 simp only [rr, tt, isLikeL,h0]
 rfl
theorem rels_flat (rs : List Rl) : ∀ v ∈ rels rs,flat0 v = true:=by
 intro v hv
 unfold rels at hv
 obtain ⟨x,_,hx⟩:=List.mem_flatMap.1 hv
 simp only [rr, tt, relC,List.mem_cons,List.not_mem_nil,or_false] at hx
 rcases hx with rfl | rfl | rfl | rfl | rfl | rfl <;> rfl
end Go.Proofs.Ytliidiceljdgmaa
namespace Go.Proofs.Ytliidiceljdgmaa
open Go.RowKit
open Sy
set_option maxRecDepth 100000
structure Cp where
 a : Nat
 e : Nat
 b : Nat
 t : Nat
 p : Nat
 y : Nat
 v : Bool
def cpC (x : Cp) : List Value:=[.int .u32 (x.a : Nat),.int .u8 (x.e : Nat),.int .u16 (x.b : Nat),.int .u16 (x.t : Nat),.int .u16 (x.p : Nat),.int .u16 (x.y : Nat),.int .u32 0,.bool x.v]
def cpL (l : List Cp) : List Value:=l.flatMap cpC
def mkCp (a s p y : Nat) : Cp:=⟨mA a s p,mE a s p,mB a s p,mT a s p,mP a s p,y,mV a s p⟩
def selRk : SelC:=fun f args _ => bif Nat.beq f 81 then
 match args with
 | [.agg ⟨[.int .u32 a,.int .u32 s]⟩,.int .u16 p] => some (makeZ a s p,[],makeHyp a s p)
 | _ => none
 else none
def adA (b : Bool) (x : Cp) : List Value:=[.bool b,.agg ⟨cpC x⟩,.pointer (some ⟨64,0,none⟩)]
def adB (X n : Nat) : Sy.Blk:=⟨true,none,[.slice (some ⟨X,0,none⟩) n (big + X)],none⟩
def adO (X : Nat) (l : List Cp) : Sy.Blk:=⟨true,some (X,8),cpL l,none⟩
theorem adc_0 (a e b t p y : Nat) (v : Bool) : evF Try.prog noBase noLoop 100 3 24 (adA true { a:=a,e:=e,b:=b,t:=t,p:=p,y:=y,v:=v : Cp }) ⟨65,[(64,⟨true,none,[Value.slice none 0 0],none⟩)],[],0,[],0,True⟩ = some (undef,⟨68,[(67,⟨true,some (67,8),[Value.int .u32 (↑a),.int .u8 (↑e),.int .u16 (↑b),.int .u16 (↑t),.int .u16 (↑p),.int .u16 (↑y),.int .u32 0,.bool v],none⟩),(66,⟨true,none,[Value.int .u32 (↑a),.int .u8 (↑e),.int .u16 (↑b),.int .u16 (↑t),.int .u16 (↑p),.int .u16 (↑y),.int .u32 0,.bool v],none⟩),(65,⟨true,none,[Value.int .u32 (↑a),.int .u8 (↑e),.int .u16 (↑b),.int .u16 (↑t),.int .u16 (↑p),.int .u16 (↑y),.int .u32 0,.bool v],none⟩),(64,⟨true,none,[Value.slice (some ⟨67,0,none⟩) 1 9223372036854775875],none⟩)],[(67,1)],0,[],0,True⟩):=by kernel_rfl
theorem adc_t (a e b t p y : Nat) (v : Bool) (l : List Cp) : evF Try.prog noBase noLoop 100 3 24 (adA true { a:=a,e:=e,b:=b,t:=t,p:=p,y:=y,v:=v : Cp }) ⟨66,[(64,adB 65 l.length),(65,adO 65 l)],[(65,l.length)],0,[],0,True⟩ = some (undef,{ n:=69,h:=[(68,⟨true,some (68,8),cpL l++[Value.int .u32 (↑a),.int .u8 (↑e),.int .u16 (↑b),.int .u16 (↑t),.int .u16 (↑p),.int .u16 (↑y),.int .u32 0,.bool v],none⟩),(67,⟨true,none,[Value.int .u32 (↑a),.int .u8 (↑e),.int .u16 (↑b),.int .u16 (↑t),.int .u16 (↑p),.int .u16 (↑y),.int .u32 0,.bool v],none⟩),(66,⟨true,none,[Value.int .u32 (↑a),.int .u8 (↑e),.int .u16 (↑b),.int .u16 (↑t),.int .u16 (↑p),.int .u16 (↑y),.int .u32 0,.bool v],none⟩),(64,⟨true,none,[Value.slice (some ⟨68,0,none⟩) (l.length+1) 9223372036854775876],none⟩)],lo:=[(68,l.length+1),(65,l.length)],esc:=0,T:=[],k:=0,O:=bif (lenT (cpL l)).beq (l.length * 8) then bif ((l.length+1) * 24).ble 1099511627776 && (l.length+1).blt 4611686018427387904 then True else False else False : St }):=by kernel_rfl
theorem adc_f (a e b t p y : Nat) (v : Bool) (l : List Cp) : evF Try.prog noBase noLoop 100 3 24 (adA false { a:=a,e:=e,b:=b,t:=t,p:=p,y:=y,v:=v : Cp }) ⟨66,[(64,adB 65 l.length),(65,adO 65 l)],[(65,l.length)],0,[],0,True⟩ = some (undef,⟨67,[(64,⟨true,none,[Value.slice (some ⟨65,0,none⟩) l.length 9223372036854775873],none⟩),(65,⟨true,some (65,8),cpL l,none⟩)],[(65,l.length)],0,[],0,True⟩):=by kernel_rfl
theorem cpC_flat (x : Cp) : ∀ v ∈ cpC x,flat0 v = true:=fun v hv => by
 simp only [rr, tt, cpC,List.mem_cons,List.not_mem_nil,or_false] at hv
 rcases hv with rfl | rfl | rfl | rfl | rfl | rfl | rfl | rfl <;> rfl
theorem cpL_flat (l : List Cp) : ∀ v ∈ cpL l,flat0 v = true:=fun v hv => by
 obtain ⟨x,_,hx⟩:=List.mem_flatMap.1 hv
 exact cpC_flat x v hx
theorem cpL_len (l : List Cp) : (cpL l).length = l.length * 8:=by
 induction l with
 | nil => rfl
 | cons x l ih => rw [show cpL (x :: l) = cpC x ++ cpL l from by simp [cpL],List.length_append,ih,List.length_cons,show (cpC x).length = 8 from rfl]; omega
theorem cpL_one (x : Cp) : cpL [x] = cpC x:=by simp [cpL]
theorem cpL_snoc (l : List Cp) (x : Cp) : cpL (l ++ [x]) = cpL l ++ cpC x:=by unfold cpL; rw [List.flatMap_append]; simp
def adL (b : Bool) (l : List Cp) (x : Cp) : List Cp:=bif b then l ++ [x] else l
def adC (b : Bool) (x : Cp) (l l' : List Cp) : Con:=⟨adA b x,66,[(64,adB 65 l.length),(65,adO 65 l)],[(65,l.length)],undef,67,[(64,adB 66 l'.length),(66,adO 66 l')],[(66,l'.length)]⟩
def adC0 (x : Cp) : Con:=⟨adA true x,65,[(64,⟨true,none,[.slice none 0 0],none⟩)],[],undef,66,[(64,adB 65 1),(65,adO 65 [x])],[(65,1)]⟩
theorem adB_ok {q : Nat → Bool} (X n : Nat) (h : q X = true) : ∀ v ∈ (adB X n).cells,okV q 3 v = true:=fun v hv => by
 obtain rfl:=List.mem_singleton.1 hv
 simp only [rr, tt, okV,bndA,h,Bool.and_true,Bool.true_and,Bool.or_eq_true]
 right
 rw [show big + X - big = X from Nat.add_sub_cancel_left _ _]; exact h
theorem adA_ok {q : Nat → Bool} (b : Bool) (x : Cp) (h : q 64 = true) : (adA b x).all (okV q 3) = true:=by
 simp only [rr, tt, adA,cpC,List.all_cons,List.all_nil,okV,bndA,h,flat0,Bool.and_true,Bool.true_and]
theorem adB_bnd {q : Nat → Bool} (X n : Nat) (h : q X = true) : ∀ v ∈ (adB X n).cells,bnd q v = true:=fun v hv => okV_bnd 3 v (adB_ok X n h v hv)
theorem adC_ok (b : Bool) (x : Cp) (l l' : List Cp) (h : l.length ≤ 100000) (hl : l' = adL b l x) : ConOk Try.prog 24 3 (adC b x l l') ∧ FlatC (adC b x l l'):=by
 subst hl
 refine ⟨?_,⟨fun y hy hne => ?_⟩⟩
 ·have wf : (adC b x l (adL b l x)).Wf 3:=⟨by show NG ≤ 66; decide,by show 66 ≤ 67; omega,⟨⟨rfl,rfl,adB_bnd _ _ rfl⟩,⟨rfl,rfl,flat_bnd (cpL_flat l)⟩,trivial⟩,rfl,rfl,rfl,adA_ok b x rfl,rfl,fun y hy v hv => by
   simp only [rr, tt, adC,List.mem_cons,List.not_mem_nil,or_false] at hy
   rcases hy with rfl | rfl
   ·exact adB_ok _ _ rfl v hv
   ·exact okV_flat0 (cpL_flat _ v hv) 3⟩
  cases b
  ·have hr:=adc_f x.a x.e x.b x.t x.p x.y x.v l
   refine conOk_run (T:=[]) (run_ok (L:=100) ar_names (noBase_ok _) (noLoop_ok _) 3) wf hr trivial (p:=fun l => Nat.blt l 67) (σ:=fun l => if l = 66 then 65 else l) ?_
   refine ⟨fun l hl => ?_,⟨⟨rfl,List.all_eq_true.2 (adB_ok _ _ rfl),rfl,?_⟩,⟨rfl,flat_all (cpL_flat _),rfl,?_⟩,trivial⟩,rfl,⟨⟨rfl,Nat.le_refl _⟩,trivial⟩,⟨rfl,rfl⟩,rfl,⟨⟨rfl,rfl,adB_bnd _ _ rfl⟩,⟨rfl,rfl,flat_bnd (cpL_flat _)⟩,trivial⟩,rfl,bnd_undef _,fun y hy hrw => ?_⟩
   ·have : NG = 64:=rfl
    show (if l = 66 then _ else l) = l; rw [if_neg (by omega)]
   ·exact ⟨rfl,rfl,trivial,by kernel_rfl⟩
   ·exact ⟨rfl,rfl,trivial,(flat_map (cpL_flat _)).symm⟩
   ·simp only [rr, tt, adC,List.mem_cons,List.not_mem_nil,or_false] at hy
    rcases hy with rfl | rfl <;> cases hrw
  ·have hr:=adc_t x.a x.e x.b x.t x.p x.y x.v l
   have e1 : cpL l ++ [Value.int IntKind.u32 (x.a : Int),Value.int IntKind.u8 (x.e : Int),Value.int IntKind.u16 (x.b : Int),Value.int IntKind.u16 (x.t : Int),Value.int IntKind.u16 (x.p : Int),Value.int IntKind.u16 (x.y : Int),Value.int IntKind.u32 (0 : Int),Value.bool x.v] = cpL (l ++ [x]):=(cpL_snoc l x).symm
   have e2 : l.length + 1 = (l ++ [x]).length:=by rw [List.length_append]; rfl
   rw [e1,e2] at hr
   refine conOk_run (T:=[]) (run_ok (L:=100) ar_names (noBase_ok _) (noLoop_ok _) 3) wf hr ?_ (p:=fun l => Nat.blt l 69) (σ:=fun l => if l = 66 then 68 else l) ?_
   ·rw [← e2]
    simp only [rr, tt, lenT_eq,cpL_len]
    rw [Nat.beq_refl,Nat.ble_eq_true_of_le (by omega),blt_yes (by omega)]
    trivial
   refine ⟨fun l hl => ?_,⟨⟨rfl,List.all_eq_true.2 (adB_ok _ _ rfl),rfl,?_⟩,⟨rfl,flat_all (cpL_flat _),rfl,?_⟩,trivial⟩,rfl,⟨⟨rfl,Nat.le_refl _⟩,trivial⟩,⟨rfl,rfl⟩,rfl,⟨⟨rfl,rfl,adB_bnd _ _ rfl⟩,⟨rfl,rfl,flat_bnd (cpL_flat _)⟩,trivial⟩,rfl,bnd_undef _,fun y hy hrw => ?_⟩
   ·have : NG = 64:=rfl
    show (if l = 66 then _ else l) = l; rw [if_neg (by omega)]
   ·exact ⟨rfl,rfl,trivial,by kernel_rfl⟩
   ·exact ⟨rfl,rfl,trivial,(flat_map (cpL_flat _)).symm⟩
   ·simp only [rr, tt, adC,List.mem_cons,List.not_mem_nil,or_false] at hy
    rcases hy with rfl | rfl <;> cases hrw
 ·simp only [rr, tt, adC,List.mem_cons,List.not_mem_nil,or_false] at hy
  rcases hy with rfl | rfl
  ·exact absurd rfl hne
  ·exact cpL_flat _
theorem adC0_ok (x : Cp) : ConOk Try.prog 24 3 (adC0 x) ∧ FlatC (adC0 x):=by
 refine ⟨?_,⟨fun y hy hne => ?_⟩⟩
 ·have hr:=adc_0 x.a x.e x.b x.t x.p x.y x.v
  refine conOk_run (T:=[]) (run_ok (L:=100) ar_names (noBase_ok _) (noLoop_ok _) 3) ⟨by show NG ≤ 65; decide,by show 65 ≤ 66; omega,⟨⟨rfl,rfl,fun v hv => by obtain rfl:=List.mem_singleton.1 hv; exact okV_bnd 3 _ rfl⟩,trivial⟩,rfl,rfl,rfl,adA_ok true x rfl,rfl,fun y hy v hv => ?_⟩ hr trivial (p:=fun l => Nat.blt l 68) (σ:=fun l => if l = 65 then 67 else l) ?_
  ·simp only [rr, tt, adC0,List.mem_cons,List.not_mem_nil,or_false] at hy
   rcases hy with rfl | rfl
   ·exact adB_ok _ _ rfl v hv
   ·exact okV_flat0 (cpL_flat _ v hv) 3
  refine ⟨fun l hl => ?_,⟨⟨rfl,List.all_eq_true.2 (adB_ok _ _ rfl),rfl,?_⟩,⟨rfl,flat_all (cpL_flat _),rfl,?_⟩,trivial⟩,rfl,⟨⟨rfl,Nat.le_refl _⟩,trivial⟩,⟨rfl,rfl⟩,rfl,⟨⟨rfl,rfl,adB_bnd _ _ rfl⟩,⟨rfl,rfl,flat_bnd (cpL_flat _)⟩,trivial⟩,rfl,bnd_undef _,fun y hy hrw => ?_⟩
  ·have : NG = 64:=rfl
   show (if l = 65 then _ else l) = l; rw [if_neg (by omega)]
  ·exact ⟨rfl,rfl,trivial,by kernel_rfl⟩
  ·exact ⟨rfl,rfl,trivial,(by rw [show (adO 65 [x]).cells = cpL [x] from rfl,flat_map (cpL_flat _),cpL_one] : cpC x = List.map (rnV (fun l => if l = 65 then 67 else l) 3) (adO 65 [x]).cells)⟩
  ·simp only [rr, tt, adC0,List.mem_cons,List.not_mem_nil,or_false] at hy
   rcases hy with rfl | rfl <;> cases hrw
 ·simp only [rr, tt, adC0,List.mem_cons,List.not_mem_nil,or_false] at hy
  rcases hy with rfl | rfl
  ·exact absurd rfl hne
  ·exact cpL_flat _
theorem rmake_con (a s p : Int) (h : makeHyp a s p) : ConOk Try.prog 81 3 (makeZ a s p):=by
 obtain ⟨h1,h2,h3,h4,h5⟩:=h
 obtain ⟨a,rfl⟩:=Int.eq_ofNat_of_zero_le h1
 obtain ⟨s,rfl⟩:=Int.eq_ofNat_of_zero_le h3
 obtain ⟨p,rfl⟩:=Int.eq_ofNat_of_zero_le h5
 refine conOk_pure (d:=1) (enters_b ar_names (by kernel_rfl)) (fun u hu => ?_) rfl fun w => ?_
 ·simp only [rr, tt, List.mem_cons,List.not_mem_nil,or_false] at hu
  rcases hu with rfl | rfl <;> rfl
 ·cases hm : makeOk a s p
  ·have:=rmake_n a s p w (by omega) (by omega) hm
   simp only [rr, tt, makeV,mA,mE,mB,mT,mP,mV,Int.toNat_natCast,hm,Bool.false_eq_true,if_false]
   exact this
  ·have:=rmake_y a s p w (by omega) (by omega) hm
   simp only [rr, tt, makeV,mA,mE,mB,mT,mP,mV,Int.toNat_natCast,hm,if_true]
   exact this
theorem selRk_ok : SelOk Try.prog 3 selRk:=by
 intro f args s c ρ q h hq
 unfold selRk at h
 obtain ⟨h2,h3⟩:=bif_some h
 have h2:=eB h2
 subst h2
 split at h3
 ·cases h3; exact rmake_con _ _ _ hq
 ·cases h3
end Go.Proofs.Ytliidiceljdgmaa
namespace Go.Proofs.Ytliidiceljdgmaa
open Go.RowKit
open Sy
set_option maxRecDepth 100000
def plB (p s t : Nat) (nc ns : Nat) (d : List UInt8) (a2 : Option Addr) (n2 c2 : Nat) (c da ds sa ss ha hs : Nat) : List Value :=
 [.int .i64 (p : Nat),.int .i64 (s : Nat),.int .i64 (t : Nat),.slice (some ⟨64,0,none⟩) nc (big + 64),.string ⟨⟨d⟩⟩,.slice a2 n2 c2,.slice (some ⟨66,0,none⟩) ns (big + 66),.int .u32 0,.int .u32 (c : Nat),.int .u32 (da : Nat),.int .u32 (ds : Nat),.int .u32 (sa : Nat),.int .u32 (ss : Nat),.int .u32 (ha : Nat),.int .u32 (hs : Nat)]
def btG : Value:=.func (.func 24) ⟨[]⟩ ⟨[.pointer (some ⟨70,0,none⟩)]⟩
def btE : List (Nat × Value):=[(1,.pointer (some ⟨67,0,none⟩)),(2,.slice none 0 0),(3,.int .i64 0),(4,.pointer (some ⟨68,0,none⟩)),(5,.int .i64 0),(6,.pointer (some ⟨69,0,none⟩)),(7,.pointer (some ⟨70,0,none⟩)),(8,btG)]
def btsI (p s t : Nat) (nc ns : Nat) (d : List UInt8) (a2 : Option Addr) (n2 c2 : Nat) (c da ds sa ss ha hs : Nat) (l : List Cp) (k : Nat) : Sf :=
 ⟨85,btE ++ [(39,.int .i64 (ns : Nat)),(40,.int .i64 (k : Nat))],[(70,adB 84 l.length),(84,adO 84 l),(69,⟨false,none,plB p s t nc ns d a2 n2 c2 c da ds sa ss ha hs,none⟩)],[(84,l.length)]⟩
def btrI (p s t : Nat) (nc ns : Nat) (d : List UInt8) (rs : List Rl) (c da ds sa ss ha hs : Nat) (l : List Cp) (k : Nat) : Sf :=
 ⟨93,btE ++ [(57,.slice (some ⟨65,0,none⟩) rs.length (big + 65)),(58,.int .i64 (rs.length : Nat)),(59,.int .i64 (k : Nat))],[(70,adB 92 l.length),(92,adO 92 l),(69,⟨false,none,plB p s t nc ns d (some ⟨65,0,none⟩) rs.length (big + 65) c da ds sa ss ha hs,none⟩),(65,⟨false,some (0,0),rels rs,none⟩)],[(92,l.length)]⟩
theorem bts_n (p : Nat) (s : Nat) (t : Nat) (nc : Nat) (ns : Nat) (d : List UInt8) (a2 : Option Addr) (n2 : Nat) (c2 : Nat) (c : Nat) (da : Nat) (ds : Nat) (sa : Nat) (ss : Nat) (ha : Nat) (hs : Nat) (l : List Cp) (k : Nat) : evC Try.prog (evF Try.prog (baseC 3 selMk) noLoop 100 20) (noLoop 8) 70 100 (loopOf Try.prog 8 0) (Sf.frT 70 (btsI p s t nc ns d a2 n2 c2 c da ds sa ss ha hs l k) [(0,true)]) = some (Exit.normal,{ e:=[[unk,.pointer (some ⟨67,0,none⟩),.slice none 0 0,.int .i64 0,.pointer (some ⟨68,0,none⟩),.int .i64 0,.pointer (some ⟨69,0,none⟩),.pointer (some ⟨70,0,none⟩),.func (Fn.func 24) { toList:=[] } { toList:=[Value.pointer (some ⟨70,0,none⟩)] },.int .i64 (↑k),unk,unk,unk,unk,unk,unk],[unk,unk,unk,unk,unk,unk,unk,unk,unk,unk,unk,unk,unk,unk,unk,unk],[unk,unk,unk,unk,unk,unk,unk,.int .i64 (↑ns),.int .i64 (IntKind.i64.wrap ((↑k : Int) + (1 : Int))),.bool (decide ((↑k : Int) < (↑ns : Int))),.int .i64 (↑k),.func (Fn.func 24) { toList:=[] } { toList:=[Value.pointer (some ⟨70,0,none⟩)] },.agg ⟨[.int .i64 (↑p),.int .i64 (↑s),.int .i64 (↑t),.slice (some ⟨64,0,none⟩) nc 9223372036854775872,.string ⟨⟨d⟩⟩,.slice a2 n2 c2,.slice (some ⟨66,0,none⟩) ns 9223372036854775874,.int .u32 0,.int .u32 (↑c),.int .u32 (↑da),.int .u32 (↑ds),.int .u32 (↑sa),.int .u32 (↑ss),.int .u32 (↑ha),.int .u32 (↑hs)]⟩,.int .i64 (↑k),.agg ⟨[.int .u32 (↑(mA (IntKind.u32.wrap ((↑sa : Int) + IntKind.u32.wrap (IntKind.u32.wrap (↑k) * IntKind.u32.wrap (↑s)))).toNat (IntKind.u32.wrap (↑s)).toNat 27) : Int),.int .u8 (↑(mE (IntKind.u32.wrap ((↑sa : Int) + IntKind.u32.wrap (IntKind.u32.wrap (↑k) * IntKind.u32.wrap (↑s)))).toNat (IntKind.u32.wrap (↑s)).toNat 27) : Int),.int .u16 (↑(mB (IntKind.u32.wrap ((↑sa : Int) + IntKind.u32.wrap (IntKind.u32.wrap (↑k) * IntKind.u32.wrap (↑s)))).toNat (IntKind.u32.wrap (↑s)).toNat 27) : Int),.int .u16 (↑(mT (IntKind.u32.wrap ((↑sa : Int) + IntKind.u32.wrap (IntKind.u32.wrap (↑k) * IntKind.u32.wrap (↑s)))).toNat (IntKind.u32.wrap (↑s)).toNat 27) : Int),.int .u16 (↑(mP (IntKind.u32.wrap ((↑sa : Int) + IntKind.u32.wrap (IntKind.u32.wrap (↑k) * IntKind.u32.wrap (↑s)))).toNat (IntKind.u32.wrap (↑s)).toNat 27) : Int),.int .u16 0,.int .u32 0,.bool (mV (IntKind.u32.wrap ((↑sa : Int) + IntKind.u32.wrap (IntKind.u32.wrap (↑k) * IntKind.u32.wrap (↑s)))).toNat (IntKind.u32.wrap (↑s)).toNat 27)]⟩,undef],[Value.int .i64 (IntKind.i64.wrap ((↑k : Int) + (1 : Int))),unk,unk,unk,unk,unk,unk,unk,unk,unk,unk,unk,unk,unk,unk,unk],[unk,unk,unk,unk,unk,unk,unk,unk,unk,unk,unk,unk,unk,unk,unk,unk]],s:={ n:=96,h:=[(95,⟨true,some (95,8),cpL l ++ [Value.int .u32 (↑(mA (IntKind.u32.wrap ((↑sa : Int) + IntKind.u32.wrap (IntKind.u32.wrap (↑k) * IntKind.u32.wrap (↑s)))).toNat (IntKind.u32.wrap (↑s)).toNat 27) : Int),.int .u8 (↑(mE (IntKind.u32.wrap ((↑sa : Int) + IntKind.u32.wrap (IntKind.u32.wrap (↑k) * IntKind.u32.wrap (↑s)))).toNat (IntKind.u32.wrap (↑s)).toNat 27) : Int),.int .u16 (↑(mB (IntKind.u32.wrap ((↑sa : Int) + IntKind.u32.wrap (IntKind.u32.wrap (↑k) * IntKind.u32.wrap (↑s)))).toNat (IntKind.u32.wrap (↑s)).toNat 27) : Int),.int .u16 (↑(mT (IntKind.u32.wrap ((↑sa : Int) + IntKind.u32.wrap (IntKind.u32.wrap (↑k) * IntKind.u32.wrap (↑s)))).toNat (IntKind.u32.wrap (↑s)).toNat 27) : Int),.int .u16 (↑(mP (IntKind.u32.wrap ((↑sa : Int) + IntKind.u32.wrap (IntKind.u32.wrap (↑k) * IntKind.u32.wrap (↑s)))).toNat (IntKind.u32.wrap (↑s)).toNat 27) : Int),.int .u16 0,.int .u32 0,.bool (mV (IntKind.u32.wrap ((↑sa : Int) + IntKind.u32.wrap (IntKind.u32.wrap (↑k) * IntKind.u32.wrap (↑s)))).toNat (IntKind.u32.wrap (↑s)).toNat 27)],none⟩),(94,⟨true,none,[Value.int .u32 (↑(mA (IntKind.u32.wrap ((↑sa : Int) + IntKind.u32.wrap (IntKind.u32.wrap (↑k) * IntKind.u32.wrap (↑s)))).toNat (IntKind.u32.wrap (↑s)).toNat 27) : Int),.int .u8 (↑(mE (IntKind.u32.wrap ((↑sa : Int) + IntKind.u32.wrap (IntKind.u32.wrap (↑k) * IntKind.u32.wrap (↑s)))).toNat (IntKind.u32.wrap (↑s)).toNat 27) : Int),.int .u16 (↑(mB (IntKind.u32.wrap ((↑sa : Int) + IntKind.u32.wrap (IntKind.u32.wrap (↑k) * IntKind.u32.wrap (↑s)))).toNat (IntKind.u32.wrap (↑s)).toNat 27) : Int),.int .u16 (↑(mT (IntKind.u32.wrap ((↑sa : Int) + IntKind.u32.wrap (IntKind.u32.wrap (↑k) * IntKind.u32.wrap (↑s)))).toNat (IntKind.u32.wrap (↑s)).toNat 27) : Int),.int .u16 (↑(mP (IntKind.u32.wrap ((↑sa : Int) + IntKind.u32.wrap (IntKind.u32.wrap (↑k) * IntKind.u32.wrap (↑s)))).toNat (IntKind.u32.wrap (↑s)).toNat 27) : Int),.int .u16 0,.int .u32 0,.bool (mV (IntKind.u32.wrap ((↑sa : Int) + IntKind.u32.wrap (IntKind.u32.wrap (↑k) * IntKind.u32.wrap (↑s)))).toNat (IntKind.u32.wrap (↑s)).toNat 27)],none⟩),(93,⟨true,none,[Value.int .u32 (↑(mA (IntKind.u32.wrap ((↑sa : Int) + IntKind.u32.wrap (IntKind.u32.wrap (↑k) * IntKind.u32.wrap (↑s)))).toNat (IntKind.u32.wrap (↑s)).toNat 27) : Int),.int .u8 (↑(mE (IntKind.u32.wrap ((↑sa : Int) + IntKind.u32.wrap (IntKind.u32.wrap (↑k) * IntKind.u32.wrap (↑s)))).toNat (IntKind.u32.wrap (↑s)).toNat 27) : Int),.int .u16 (↑(mB (IntKind.u32.wrap ((↑sa : Int) + IntKind.u32.wrap (IntKind.u32.wrap (↑k) * IntKind.u32.wrap (↑s)))).toNat (IntKind.u32.wrap (↑s)).toNat 27) : Int),.int .u16 (↑(mT (IntKind.u32.wrap ((↑sa : Int) + IntKind.u32.wrap (IntKind.u32.wrap (↑k) * IntKind.u32.wrap (↑s)))).toNat (IntKind.u32.wrap (↑s)).toNat 27) : Int),.int .u16 (↑(mP (IntKind.u32.wrap ((↑sa : Int) + IntKind.u32.wrap (IntKind.u32.wrap (↑k) * IntKind.u32.wrap (↑s)))).toNat (IntKind.u32.wrap (↑s)).toNat 27) : Int),.int .u16 0,.int .u32 0,.bool (mV (IntKind.u32.wrap ((↑sa : Int) + IntKind.u32.wrap (IntKind.u32.wrap (↑k) * IntKind.u32.wrap (↑s)))).toNat (IntKind.u32.wrap (↑s)).toNat 27)],none⟩),(70,⟨true,none,[Value.slice (some ⟨95,0,none⟩) (l.length + 1) 9223372036854775903],none⟩),(69,⟨false,none,[Value.int .i64 (↑p),.int .i64 (↑s),.int .i64 (↑t),.slice (some ⟨64,0,none⟩) nc 9223372036854775872,.string ⟨⟨d⟩⟩,.slice a2 n2 c2,.slice (some ⟨66,0,none⟩) ns 9223372036854775874,.int .u32 0,.int .u32 (↑c),.int .u32 (↑da),.int .u32 (↑ds),.int .u32 (↑sa),.int .u32 (↑ss),.int .u32 (↑ha),.int .u32 (↑hs)],none⟩)],lo:=[(95,l.length + 1),(84,l.length)],esc:=0,T:=[],k:=1,O:=bif (lenT (cpL l)).beq (l.length * 8) then bif ((l.length + 1) * 24).ble 1099511627776 && (l.length + 1).blt 4611686018427387904 then (True ∧ decide ((↑k : Int) < (↑ns : Int)) = true) ∧ ((0 : Int) ≤ IntKind.u32.wrap ((↑sa : Int) + IntKind.u32.wrap (IntKind.u32.wrap (↑k) * IntKind.u32.wrap (↑s))) ∧ IntKind.u32.wrap ((↑sa : Int) + IntKind.u32.wrap (IntKind.u32.wrap (↑k) * IntKind.u32.wrap (↑s))) < (4294967296 : Int) ∧ (0 : Int) ≤ IntKind.u32.wrap (↑s) ∧ IntKind.u32.wrap (↑s) < (4294967296 : Int) ∧ (0 : Int) ≤ (27 : Int)) ∧ (rr (Value.agg ⟨[.int .u32 (IntKind.u32.wrap ((↑sa : Int) + IntKind.u32.wrap (IntKind.u32.wrap (↑k) * IntKind.u32.wrap (↑s)))),.int .u32 (IntKind.u32.wrap (↑s))]⟩) ∧ rr (Value.int .u16 27) ∧ True) ∧ True ∧ True else False else False : St } : Fr }):=by kernel_rfl
theorem bts_e (p : Nat) (s : Nat) (t : Nat) (nc : Nat) (ns : Nat) (d : List UInt8) (a2 : Option Addr) (n2 : Nat) (c2 : Nat) (c : Nat) (da : Nat) (ds : Nat) (sa : Nat) (ss : Nat) (ha : Nat) (hs : Nat) (l : List Cp) (k : Nat) : evC Try.prog (evF Try.prog noBase noLoop 100 20) (noLoop 8) 70 100 (loopOf Try.prog 8 0) (Sf.frT 70 (btsI p s t nc ns d a2 n2 c2 c da ds sa ss ha hs l k) [(0,false)]) = some (Exit.exit 0,{ e:=[[unk,.pointer (some ⟨67,0,none⟩),.slice none 0 0,.int .i64 0,.pointer (some ⟨68,0,none⟩),.int .i64 0,.pointer (some ⟨69,0,none⟩),.pointer (some ⟨70,0,none⟩),.func (Fn.func 24) { toList:=[] } { toList:=[Value.pointer (some ⟨70,0,none⟩)] },unk,unk,unk,unk,unk,unk,unk],[unk,unk,unk,unk,unk,unk,unk,unk,unk,unk,unk,unk,unk,unk,unk,unk],[unk,unk,unk,unk,unk,unk,unk,.int .i64 (↑ns),.int .i64 (↑k),.bool (decide ((↑k : Int) < (↑ns : Int))),unk,unk,unk,unk,unk,unk],[unk,unk,unk,unk,unk,unk,unk,unk,unk,unk,unk,unk,unk,unk,unk,unk],[unk,unk,unk,unk,unk,unk,unk,unk,unk,unk,unk,unk,unk,unk,unk,unk]],s:={ n:=85,h:=[(70,⟨true,none,[Value.slice (some ⟨84,0,none⟩) l.length 9223372036854775892],none⟩),(84,⟨true,some (84,8),cpL l,none⟩),(69,⟨false,none,[Value.int .i64 (↑p),.int .i64 (↑s),.int .i64 (↑t),.slice (some ⟨64,0,none⟩) nc 9223372036854775872,.string ⟨⟨d⟩⟩,.slice a2 n2 c2,.slice (some ⟨66,0,none⟩) ns 9223372036854775874,.int .u32 0,.int .u32 (↑c),.int .u32 (↑da),.int .u32 (↑ds),.int .u32 (↑sa),.int .u32 (↑ss),.int .u32 (↑ha),.int .u32 (↑hs)],none⟩)],lo:=[(84,l.length)],esc:=0,T:=[],k:=1,O:=True ∧ decide ((↑k : Int) < (↑ns : Int)) = false : St } : Fr }):=by kernel_rfl
theorem btr_d (p : Nat) (s : Nat) (t : Nat) (nc : Nat) (ns : Nat) (d : List UInt8) (rs : List Rl) (c : Nat) (da : Nat) (ds : Nat) (sa : Nat) (ss : Nat) (ha : Nat) (hs : Nat) (l : List Cp) (k : Nat) : evC Try.prog (evF Try.prog (baseC 3 selMk) noLoop 100 20) (noLoop 8) 70 100 (loopOf Try.prog 8 1) (Sf.frT 70 (btrI p s t nc ns d rs c da ds sa ss ha hs l k) [(0,true),(1,false)]) = some (Exit.normal,{ e:=[[unk,.pointer (some ⟨67,0,none⟩),.slice none 0 0,.int .i64 0,.pointer (some ⟨68,0,none⟩),.int .i64 0,.pointer (some ⟨69,0,none⟩),.pointer (some ⟨70,0,none⟩),.func (Fn.func 24) { toList:=[] } { toList:=[Value.pointer (some ⟨70,0,none⟩)] },unk,unk,.pointer (some ⟨93,0,none⟩),unk,unk,unk,unk],[unk,unk,unk,unk,unk,unk,unk,unk,unk,unk,unk,unk,unk,unk,unk,unk],[unk,unk,unk,unk,unk,unk,unk,unk,unk,unk,unk,unk,unk,unk,unk,unk],[unk,unk,unk,unk,unk,unk,unk,unk,unk,.slice (some ⟨65,0,none⟩) rs.length 9223372036854775873,.int .i64 (↑rs.length),.int .i64 (IntKind.i64.wrap ((↑k : Int) + (1 : Int))),.bool (decide ((↑k : Int) < (↑rs.length : Int))),.pointer (some { block:=65,off:=0 + (↑k : Int).toNat * 6 }),.agg ⟨[.int .u32 (intOf' (getD' undef (rels rs) (0 + (↑k : Int).toNat * 6))),.bool (boolOf' (getD' undef (rels rs) (0 + (↑k : Int).toNat * 6 + 1))),.int .u32 (intOf' (getD' undef (rels rs) (0 + (↑k : Int).toNat * 6 + 1 + 1))),.int .u32 (intOf' (getD' undef (rels rs) (0 + (↑k : Int).toNat * 6 + 1 + 1 + 1))),.int .u16 (intOf' (getD' undef (rels rs) (0 + (↑k : Int).toNat * 6 + 1 + 1 + 1 + 1))),.int .u16 (intOf' (getD' undef (rels rs) (0 + (↑k : Int).toNat * 6 + 1 + 1 + 1 + 1 + 1)))]⟩,.func (Fn.func 24) { toList:=[] } { toList:=[Value.pointer (some ⟨70,0,none⟩)] }],[Value.agg ⟨[.int .i64 (↑p),.int .i64 (↑s),.int .i64 (↑t),.slice (some ⟨64,0,none⟩) nc 9223372036854775872,.string ⟨⟨d⟩⟩,.slice (some ⟨65,0,none⟩) rs.length 9223372036854775873,.slice (some ⟨66,0,none⟩) ns 9223372036854775874,.int .u32 0,.int .u32 (↑c),.int .u32 (↑da),.int .u32 (↑ds),.int .u32 (↑sa),.int .u32 (↑ss),.int .u32 (↑ha),.int .u32 (↑hs)]⟩,.agg ⟨[.int .u32 (intOf' (getD' undef (rels rs) (0 + (↑k : Int).toNat * 6))),.bool (boolOf' (getD' undef (rels rs) (0 + (↑k : Int).toNat * 6 + 1))),.int .u32 (intOf' (getD' undef (rels rs) (0 + (↑k : Int).toNat * 6 + 1 + 1))),.int .u32 (intOf' (getD' undef (rels rs) (0 + (↑k : Int).toNat * 6 + 1 + 1 + 1))),.int .u16 (intOf' (getD' undef (rels rs) (0 + (↑k : Int).toNat * 6 + 1 + 1 + 1 + 1))),.int .u16 (intOf' (getD' undef (rels rs) (0 + (↑k : Int).toNat * 6 + 1 + 1 + 1 + 1 + 1)))]⟩,.agg ⟨[.int .u32 (↑(mA (IntKind.u32.wrap ((↑da : Int) + intOf' (getD' undef (rels rs) (0 + (↑k : Int).toNat * 6 + 1 + 1)))).toNat (intOf' (getD' undef (rels rs) (0 + (↑k : Int).toNat * 6 + 1 + 1 + 1))).toNat (bits BinOp.or IntKind.u16 (0 : Int) (intOf' (getD' undef (rels rs) (0 + (↑k : Int).toNat * 6 + 1 + 1 + 1 + 1)))).toNat) : Int),.int .u8 (↑(mE (IntKind.u32.wrap ((↑da : Int) + intOf' (getD' undef (rels rs) (0 + (↑k : Int).toNat * 6 + 1 + 1)))).toNat (intOf' (getD' undef (rels rs) (0 + (↑k : Int).toNat * 6 + 1 + 1 + 1))).toNat (bits BinOp.or IntKind.u16 (0 : Int) (intOf' (getD' undef (rels rs) (0 + (↑k : Int).toNat * 6 + 1 + 1 + 1 + 1)))).toNat) : Int),.int .u16 (↑(mB (IntKind.u32.wrap ((↑da : Int) + intOf' (getD' undef (rels rs) (0 + (↑k : Int).toNat * 6 + 1 + 1)))).toNat (intOf' (getD' undef (rels rs) (0 + (↑k : Int).toNat * 6 + 1 + 1 + 1))).toNat (bits BinOp.or IntKind.u16 (0 : Int) (intOf' (getD' undef (rels rs) (0 + (↑k : Int).toNat * 6 + 1 + 1 + 1 + 1)))).toNat) : Int),.int .u16 (↑(mT (IntKind.u32.wrap ((↑da : Int) + intOf' (getD' undef (rels rs) (0 + (↑k : Int).toNat * 6 + 1 + 1)))).toNat (intOf' (getD' undef (rels rs) (0 + (↑k : Int).toNat * 6 + 1 + 1 + 1))).toNat (bits BinOp.or IntKind.u16 (0 : Int) (intOf' (getD' undef (rels rs) (0 + (↑k : Int).toNat * 6 + 1 + 1 + 1 + 1)))).toNat) : Int),.int .u16 (↑(mP (IntKind.u32.wrap ((↑da : Int) + intOf' (getD' undef (rels rs) (0 + (↑k : Int).toNat * 6 + 1 + 1)))).toNat (intOf' (getD' undef (rels rs) (0 + (↑k : Int).toNat * 6 + 1 + 1 + 1))).toNat (bits BinOp.or IntKind.u16 (0 : Int) (intOf' (getD' undef (rels rs) (0 + (↑k : Int).toNat * 6 + 1 + 1 + 1 + 1)))).toNat) : Int),.int .u16 (intOf' (getD' undef (rels rs) (0 + (↑k : Int).toNat * 6 + 1 + 1 + 1 + 1 + 1))),.int .u32 0,.bool (mV (IntKind.u32.wrap ((↑da : Int) + intOf' (getD' undef (rels rs) (0 + (↑k : Int).toNat * 6 + 1 + 1)))).toNat (intOf' (getD' undef (rels rs) (0 + (↑k : Int).toNat * 6 + 1 + 1 + 1))).toNat (bits BinOp.or IntKind.u16 (0 : Int) (intOf' (getD' undef (rels rs) (0 + (↑k : Int).toNat * 6 + 1 + 1 + 1 + 1)))).toNat)]⟩,undef,.int .i64 (IntKind.i64.wrap ((↑k : Int) + (1 : Int))),unk,unk,unk,unk,unk,unk,unk,unk,unk,unk,unk]],s:={ n:=105,h:=[(104,⟨true,some (104,8),cpL l ++ [Value.int .u32 (↑(mA (IntKind.u32.wrap ((↑da : Int) + intOf' (getD' undef (rels rs) (0 + (↑k : Int).toNat * 6 + 1 + 1)))).toNat (intOf' (getD' undef (rels rs) (0 + (↑k : Int).toNat * 6 + 1 + 1 + 1))).toNat (bits BinOp.or IntKind.u16 (0 : Int) (intOf' (getD' undef (rels rs) (0 + (↑k : Int).toNat * 6 + 1 + 1 + 1 + 1)))).toNat) : Int),.int .u8 (↑(mE (IntKind.u32.wrap ((↑da : Int) + intOf' (getD' undef (rels rs) (0 + (↑k : Int).toNat * 6 + 1 + 1)))).toNat (intOf' (getD' undef (rels rs) (0 + (↑k : Int).toNat * 6 + 1 + 1 + 1))).toNat (bits BinOp.or IntKind.u16 (0 : Int) (intOf' (getD' undef (rels rs) (0 + (↑k : Int).toNat * 6 + 1 + 1 + 1 + 1)))).toNat) : Int),.int .u16 (↑(mB (IntKind.u32.wrap ((↑da : Int) + intOf' (getD' undef (rels rs) (0 + (↑k : Int).toNat * 6 + 1 + 1)))).toNat (intOf' (getD' undef (rels rs) (0 + (↑k : Int).toNat * 6 + 1 + 1 + 1))).toNat (bits BinOp.or IntKind.u16 (0 : Int) (intOf' (getD' undef (rels rs) (0 + (↑k : Int).toNat * 6 + 1 + 1 + 1 + 1)))).toNat) : Int),.int .u16 (↑(mT (IntKind.u32.wrap ((↑da : Int) + intOf' (getD' undef (rels rs) (0 + (↑k : Int).toNat * 6 + 1 + 1)))).toNat (intOf' (getD' undef (rels rs) (0 + (↑k : Int).toNat * 6 + 1 + 1 + 1))).toNat (bits BinOp.or IntKind.u16 (0 : Int) (intOf' (getD' undef (rels rs) (0 + (↑k : Int).toNat * 6 + 1 + 1 + 1 + 1)))).toNat) : Int),.int .u16 (↑(mP (IntKind.u32.wrap ((↑da : Int) + intOf' (getD' undef (rels rs) (0 + (↑k : Int).toNat * 6 + 1 + 1)))).toNat (intOf' (getD' undef (rels rs) (0 + (↑k : Int).toNat * 6 + 1 + 1 + 1))).toNat (bits BinOp.or IntKind.u16 (0 : Int) (intOf' (getD' undef (rels rs) (0 + (↑k : Int).toNat * 6 + 1 + 1 + 1 + 1)))).toNat) : Int),.int .u16 (intOf' (getD' undef (rels rs) (0 + (↑k : Int).toNat * 6 + 1 + 1 + 1 + 1 + 1))),.int .u32 0,.bool (mV (IntKind.u32.wrap ((↑da : Int) + intOf' (getD' undef (rels rs) (0 + (↑k : Int).toNat * 6 + 1 + 1)))).toNat (intOf' (getD' undef (rels rs) (0 + (↑k : Int).toNat * 6 + 1 + 1 + 1))).toNat (bits BinOp.or IntKind.u16 (0 : Int) (intOf' (getD' undef (rels rs) (0 + (↑k : Int).toNat * 6 + 1 + 1 + 1 + 1)))).toNat)],none⟩),(103,⟨true,none,[Value.int .u32 (↑(mA (IntKind.u32.wrap ((↑da : Int) + intOf' (getD' undef (rels rs) (0 + (↑k : Int).toNat * 6 + 1 + 1)))).toNat (intOf' (getD' undef (rels rs) (0 + (↑k : Int).toNat * 6 + 1 + 1 + 1))).toNat (bits BinOp.or IntKind.u16 (0 : Int) (intOf' (getD' undef (rels rs) (0 + (↑k : Int).toNat * 6 + 1 + 1 + 1 + 1)))).toNat) : Int),.int .u8 (↑(mE (IntKind.u32.wrap ((↑da : Int) + intOf' (getD' undef (rels rs) (0 + (↑k : Int).toNat * 6 + 1 + 1)))).toNat (intOf' (getD' undef (rels rs) (0 + (↑k : Int).toNat * 6 + 1 + 1 + 1))).toNat (bits BinOp.or IntKind.u16 (0 : Int) (intOf' (getD' undef (rels rs) (0 + (↑k : Int).toNat * 6 + 1 + 1 + 1 + 1)))).toNat) : Int),.int .u16 (↑(mB (IntKind.u32.wrap ((↑da : Int) + intOf' (getD' undef (rels rs) (0 + (↑k : Int).toNat * 6 + 1 + 1)))).toNat (intOf' (getD' undef (rels rs) (0 + (↑k : Int).toNat * 6 + 1 + 1 + 1))).toNat (bits BinOp.or IntKind.u16 (0 : Int) (intOf' (getD' undef (rels rs) (0 + (↑k : Int).toNat * 6 + 1 + 1 + 1 + 1)))).toNat) : Int),.int .u16 (↑(mT (IntKind.u32.wrap ((↑da : Int) + intOf' (getD' undef (rels rs) (0 + (↑k : Int).toNat * 6 + 1 + 1)))).toNat (intOf' (getD' undef (rels rs) (0 + (↑k : Int).toNat * 6 + 1 + 1 + 1))).toNat (bits BinOp.or IntKind.u16 (0 : Int) (intOf' (getD' undef (rels rs) (0 + (↑k : Int).toNat * 6 + 1 + 1 + 1 + 1)))).toNat) : Int),.int .u16 (↑(mP (IntKind.u32.wrap ((↑da : Int) + intOf' (getD' undef (rels rs) (0 + (↑k : Int).toNat * 6 + 1 + 1)))).toNat (intOf' (getD' undef (rels rs) (0 + (↑k : Int).toNat * 6 + 1 + 1 + 1))).toNat (bits BinOp.or IntKind.u16 (0 : Int) (intOf' (getD' undef (rels rs) (0 + (↑k : Int).toNat * 6 + 1 + 1 + 1 + 1)))).toNat) : Int),.int .u16 (intOf' (getD' undef (rels rs) (0 + (↑k : Int).toNat * 6 + 1 + 1 + 1 + 1 + 1))),.int .u32 0,.bool (mV (IntKind.u32.wrap ((↑da : Int) + intOf' (getD' undef (rels rs) (0 + (↑k : Int).toNat * 6 + 1 + 1)))).toNat (intOf' (getD' undef (rels rs) (0 + (↑k : Int).toNat * 6 + 1 + 1 + 1))).toNat (bits BinOp.or IntKind.u16 (0 : Int) (intOf' (getD' undef (rels rs) (0 + (↑k : Int).toNat * 6 + 1 + 1 + 1 + 1)))).toNat)],none⟩),(102,⟨true,none,[Value.int .u32 (↑(mA (IntKind.u32.wrap ((↑da : Int) + intOf' (getD' undef (rels rs) (0 + (↑k : Int).toNat * 6 + 1 + 1)))).toNat (intOf' (getD' undef (rels rs) (0 + (↑k : Int).toNat * 6 + 1 + 1 + 1))).toNat (bits BinOp.or IntKind.u16 (0 : Int) (intOf' (getD' undef (rels rs) (0 + (↑k : Int).toNat * 6 + 1 + 1 + 1 + 1)))).toNat) : Int),.int .u8 (↑(mE (IntKind.u32.wrap ((↑da : Int) + intOf' (getD' undef (rels rs) (0 + (↑k : Int).toNat * 6 + 1 + 1)))).toNat (intOf' (getD' undef (rels rs) (0 + (↑k : Int).toNat * 6 + 1 + 1 + 1))).toNat (bits BinOp.or IntKind.u16 (0 : Int) (intOf' (getD' undef (rels rs) (0 + (↑k : Int).toNat * 6 + 1 + 1 + 1 + 1)))).toNat) : Int),.int .u16 (↑(mB (IntKind.u32.wrap ((↑da : Int) + intOf' (getD' undef (rels rs) (0 + (↑k : Int).toNat * 6 + 1 + 1)))).toNat (intOf' (getD' undef (rels rs) (0 + (↑k : Int).toNat * 6 + 1 + 1 + 1))).toNat (bits BinOp.or IntKind.u16 (0 : Int) (intOf' (getD' undef (rels rs) (0 + (↑k : Int).toNat * 6 + 1 + 1 + 1 + 1)))).toNat) : Int),.int .u16 (↑(mT (IntKind.u32.wrap ((↑da : Int) + intOf' (getD' undef (rels rs) (0 + (↑k : Int).toNat * 6 + 1 + 1)))).toNat (intOf' (getD' undef (rels rs) (0 + (↑k : Int).toNat * 6 + 1 + 1 + 1))).toNat (bits BinOp.or IntKind.u16 (0 : Int) (intOf' (getD' undef (rels rs) (0 + (↑k : Int).toNat * 6 + 1 + 1 + 1 + 1)))).toNat) : Int),.int .u16 (↑(mP (IntKind.u32.wrap ((↑da : Int) + intOf' (getD' undef (rels rs) (0 + (↑k : Int).toNat * 6 + 1 + 1)))).toNat (intOf' (getD' undef (rels rs) (0 + (↑k : Int).toNat * 6 + 1 + 1 + 1))).toNat (bits BinOp.or IntKind.u16 (0 : Int) (intOf' (getD' undef (rels rs) (0 + (↑k : Int).toNat * 6 + 1 + 1 + 1 + 1)))).toNat) : Int),.int .u16 (intOf' (getD' undef (rels rs) (0 + (↑k : Int).toNat * 6 + 1 + 1 + 1 + 1 + 1))),.int .u32 0,.bool (mV (IntKind.u32.wrap ((↑da : Int) + intOf' (getD' undef (rels rs) (0 + (↑k : Int).toNat * 6 + 1 + 1)))).toNat (intOf' (getD' undef (rels rs) (0 + (↑k : Int).toNat * 6 + 1 + 1 + 1))).toNat (bits BinOp.or IntKind.u16 (0 : Int) (intOf' (getD' undef (rels rs) (0 + (↑k : Int).toNat * 6 + 1 + 1 + 1 + 1)))).toNat)],none⟩),(93,⟨true,none,[Value.int .u32 (intOf' (getD' undef (rels rs) (0 + (↑k : Int).toNat * 6))),.bool (boolOf' (getD' undef (rels rs) (0 + (↑k : Int).toNat * 6 + 1))),.int .u32 (intOf' (getD' undef (rels rs) (0 + (↑k : Int).toNat * 6 + 1 + 1))),.int .u32 (intOf' (getD' undef (rels rs) (0 + (↑k : Int).toNat * 6 + 1 + 1 + 1))),.int .u16 (intOf' (getD' undef (rels rs) (0 + (↑k : Int).toNat * 6 + 1 + 1 + 1 + 1))),.int .u16 (intOf' (getD' undef (rels rs) (0 + (↑k : Int).toNat * 6 + 1 + 1 + 1 + 1 + 1)))],none⟩),(70,⟨true,none,[Value.slice (some ⟨104,0,none⟩) (l.length + 1) 9223372036854775912],none⟩),(69,⟨false,none,[Value.int .i64 (↑p),.int .i64 (↑s),.int .i64 (↑t),.slice (some ⟨64,0,none⟩) nc 9223372036854775872,.string ⟨⟨d⟩⟩,.slice (some ⟨65,0,none⟩) rs.length 9223372036854775873,.slice (some ⟨66,0,none⟩) ns 9223372036854775874,.int .u32 0,.int .u32 (↑c),.int .u32 (↑da),.int .u32 (↑ds),.int .u32 (↑sa),.int .u32 (↑ss),.int .u32 (↑ha),.int .u32 (↑hs)],none⟩),(65,⟨false,some (0,0),rels rs,none⟩)],lo:=[(104,l.length + 1),(92,l.length)],esc:=0,T:=[],k:=2,O:=bif (lenT (cpL l)).beq (l.length * 8) then bif ((l.length + 1) * 24).ble 1099511627776 && (l.length + 1).blt 4611686018427387904 then ((bif hasN (0 + (↑k : Int).toNat * 6 + 6) (rels rs) && isLikeL [Value.int .u32 0,.bool false,.int .u32 0,.int .u32 0,.int .u16 0,.int .u16 0] (rels rs) (0 + (↑k : Int).toNat * 6) then bif decide ((0 : Int) ≤ (↑k : Int)) && decide ((↑k : Int) < (↑rs.length : Int)) then True ∧ decide ((↑k : Int) < (↑rs.length : Int)) = true else False else False) ∧ boolOf' (getD' undef (rels rs) (0 + (↑k : Int).toNat * 6 + 1)) = false) ∧ ((0 : Int) ≤ IntKind.u32.wrap ((↑da : Int) + intOf' (getD' undef (rels rs) (0 + (↑k : Int).toNat * 6 + 1 + 1))) ∧ IntKind.u32.wrap ((↑da : Int) + intOf' (getD' undef (rels rs) (0 + (↑k : Int).toNat * 6 + 1 + 1))) < (4294967296 : Int) ∧ (0 : Int) ≤ intOf' (getD' undef (rels rs) (0 + (↑k : Int).toNat * 6 + 1 + 1 + 1)) ∧ intOf' (getD' undef (rels rs) (0 + (↑k : Int).toNat * 6 + 1 + 1 + 1)) < (4294967296 : Int) ∧ (0 : Int) ≤ bits BinOp.or IntKind.u16 (0 : Int) (intOf' (getD' undef (rels rs) (0 + (↑k : Int).toNat * 6 + 1 + 1 + 1 + 1)))) ∧ (rr (Value.agg ⟨[.int .u32 (IntKind.u32.wrap ((↑da : Int) + intOf' (getD' undef (rels rs) (0 + (↑k : Int).toNat * 6 + 1 + 1)))),.int .u32 (intOf' (getD' undef (rels rs) (0 + (↑k : Int).toNat * 6 + 1 + 1 + 1)))]⟩) ∧ rr (Value.int .u16 (bits BinOp.or IntKind.u16 (0 : Int) (intOf' (getD' undef (rels rs) (0 + (↑k : Int).toNat * 6 + 1 + 1 + 1 + 1))))) ∧ True) ∧ True ∧ True else False else False : St } : Fr }):=by kernel_rfl
theorem btr_c (p : Nat) (s : Nat) (t : Nat) (nc : Nat) (ns : Nat) (d : List UInt8) (rs : List Rl) (c : Nat) (da : Nat) (ds : Nat) (sa : Nat) (ss : Nat) (ha : Nat) (hs : Nat) (l : List Cp) (k : Nat) : evC Try.prog (evF Try.prog (baseC 3 selMk) noLoop 100 20) (noLoop 8) 70 100 (loopOf Try.prog 8 1) (Sf.frT 70 (btrI p s t nc ns d rs c da ds sa ss ha hs l k) [(0,true),(1,true)]) = some (Exit.normal,{ e:=[[unk,.pointer (some ⟨67,0,none⟩),.slice none 0 0,.int .i64 0,.pointer (some ⟨68,0,none⟩),.int .i64 0,.pointer (some ⟨69,0,none⟩),.pointer (some ⟨70,0,none⟩),.func (Fn.func 24) { toList:=[] } { toList:=[Value.pointer (some ⟨70,0,none⟩)] },unk,unk,.pointer (some ⟨93,0,none⟩),unk,unk,unk,unk],[unk,unk,unk,unk,unk,unk,unk,unk,unk,unk,unk,unk,unk,unk,unk,unk],[unk,unk,unk,unk,unk,unk,unk,unk,unk,unk,unk,unk,unk,unk,unk,unk],[unk,unk,unk,unk,unk,unk,unk,unk,unk,.slice (some ⟨65,0,none⟩) rs.length 9223372036854775873,.int .i64 (↑rs.length),.int .i64 (IntKind.i64.wrap ((↑k : Int) + (1 : Int))),.bool (decide ((↑k : Int) < (↑rs.length : Int))),.pointer (some { block:=65,off:=0 + (↑k : Int).toNat * 6 }),.agg ⟨[.int .u32 (intOf' (getD' undef (rels rs) (0 + (↑k : Int).toNat * 6))),.bool (boolOf' (getD' undef (rels rs) (0 + (↑k : Int).toNat * 6 + 1))),.int .u32 (intOf' (getD' undef (rels rs) (0 + (↑k : Int).toNat * 6 + 1 + 1))),.int .u32 (intOf' (getD' undef (rels rs) (0 + (↑k : Int).toNat * 6 + 1 + 1 + 1))),.int .u16 (intOf' (getD' undef (rels rs) (0 + (↑k : Int).toNat * 6 + 1 + 1 + 1 + 1))),.int .u16 (intOf' (getD' undef (rels rs) (0 + (↑k : Int).toNat * 6 + 1 + 1 + 1 + 1 + 1)))]⟩,.func (Fn.func 24) { toList:=[] } { toList:=[Value.pointer (some ⟨70,0,none⟩)] }],[Value.agg ⟨[.int .i64 (↑p),.int .i64 (↑s),.int .i64 (↑t),.slice (some ⟨64,0,none⟩) nc 9223372036854775872,.string ⟨⟨d⟩⟩,.slice (some ⟨65,0,none⟩) rs.length 9223372036854775873,.slice (some ⟨66,0,none⟩) ns 9223372036854775874,.int .u32 0,.int .u32 (↑c),.int .u32 (↑da),.int .u32 (↑ds),.int .u32 (↑sa),.int .u32 (↑ss),.int .u32 (↑ha),.int .u32 (↑hs)]⟩,.agg ⟨[.int .u32 (intOf' (getD' undef (rels rs) (0 + (↑k : Int).toNat * 6))),.bool (boolOf' (getD' undef (rels rs) (0 + (↑k : Int).toNat * 6 + 1))),.int .u32 (intOf' (getD' undef (rels rs) (0 + (↑k : Int).toNat * 6 + 1 + 1))),.int .u32 (intOf' (getD' undef (rels rs) (0 + (↑k : Int).toNat * 6 + 1 + 1 + 1))),.int .u16 (intOf' (getD' undef (rels rs) (0 + (↑k : Int).toNat * 6 + 1 + 1 + 1 + 1))),.int .u16 (intOf' (getD' undef (rels rs) (0 + (↑k : Int).toNat * 6 + 1 + 1 + 1 + 1 + 1)))]⟩,.agg ⟨[.int .u32 (↑(mA (IntKind.u32.wrap ((0 : Int) + intOf' (getD' undef (rels rs) (0 + (↑k : Int).toNat * 6 + 1 + 1)))).toNat (intOf' (getD' undef (rels rs) (0 + (↑k : Int).toNat * 6 + 1 + 1 + 1))).toNat (bits BinOp.or IntKind.u16 (0 : Int) (intOf' (getD' undef (rels rs) (0 + (↑k : Int).toNat * 6 + 1 + 1 + 1 + 1)))).toNat) : Int),.int .u8 (↑(mE (IntKind.u32.wrap ((0 : Int) + intOf' (getD' undef (rels rs) (0 + (↑k : Int).toNat * 6 + 1 + 1)))).toNat (intOf' (getD' undef (rels rs) (0 + (↑k : Int).toNat * 6 + 1 + 1 + 1))).toNat (bits BinOp.or IntKind.u16 (0 : Int) (intOf' (getD' undef (rels rs) (0 + (↑k : Int).toNat * 6 + 1 + 1 + 1 + 1)))).toNat) : Int),.int .u16 (↑(mB (IntKind.u32.wrap ((0 : Int) + intOf' (getD' undef (rels rs) (0 + (↑k : Int).toNat * 6 + 1 + 1)))).toNat (intOf' (getD' undef (rels rs) (0 + (↑k : Int).toNat * 6 + 1 + 1 + 1))).toNat (bits BinOp.or IntKind.u16 (0 : Int) (intOf' (getD' undef (rels rs) (0 + (↑k : Int).toNat * 6 + 1 + 1 + 1 + 1)))).toNat) : Int),.int .u16 (↑(mT (IntKind.u32.wrap ((0 : Int) + intOf' (getD' undef (rels rs) (0 + (↑k : Int).toNat * 6 + 1 + 1)))).toNat (intOf' (getD' undef (rels rs) (0 + (↑k : Int).toNat * 6 + 1 + 1 + 1))).toNat (bits BinOp.or IntKind.u16 (0 : Int) (intOf' (getD' undef (rels rs) (0 + (↑k : Int).toNat * 6 + 1 + 1 + 1 + 1)))).toNat) : Int),.int .u16 (↑(mP (IntKind.u32.wrap ((0 : Int) + intOf' (getD' undef (rels rs) (0 + (↑k : Int).toNat * 6 + 1 + 1)))).toNat (intOf' (getD' undef (rels rs) (0 + (↑k : Int).toNat * 6 + 1 + 1 + 1))).toNat (bits BinOp.or IntKind.u16 (0 : Int) (intOf' (getD' undef (rels rs) (0 + (↑k : Int).toNat * 6 + 1 + 1 + 1 + 1)))).toNat) : Int),.int .u16 (intOf' (getD' undef (rels rs) (0 + (↑k : Int).toNat * 6 + 1 + 1 + 1 + 1 + 1))),.int .u32 0,.bool (mV (IntKind.u32.wrap ((0 : Int) + intOf' (getD' undef (rels rs) (0 + (↑k : Int).toNat * 6 + 1 + 1)))).toNat (intOf' (getD' undef (rels rs) (0 + (↑k : Int).toNat * 6 + 1 + 1 + 1))).toNat (bits BinOp.or IntKind.u16 (0 : Int) (intOf' (getD' undef (rels rs) (0 + (↑k : Int).toNat * 6 + 1 + 1 + 1 + 1)))).toNat)]⟩,undef,.int .i64 (IntKind.i64.wrap ((↑k : Int) + (1 : Int))),unk,unk,unk,unk,unk,unk,unk,unk,unk,unk,unk]],s:={ n:=105,h:=[(104,⟨true,some (104,8),cpL l ++ [Value.int .u32 (↑(mA (IntKind.u32.wrap ((0 : Int) + intOf' (getD' undef (rels rs) (0 + (↑k : Int).toNat * 6 + 1 + 1)))).toNat (intOf' (getD' undef (rels rs) (0 + (↑k : Int).toNat * 6 + 1 + 1 + 1))).toNat (bits BinOp.or IntKind.u16 (0 : Int) (intOf' (getD' undef (rels rs) (0 + (↑k : Int).toNat * 6 + 1 + 1 + 1 + 1)))).toNat) : Int),.int .u8 (↑(mE (IntKind.u32.wrap ((0 : Int) + intOf' (getD' undef (rels rs) (0 + (↑k : Int).toNat * 6 + 1 + 1)))).toNat (intOf' (getD' undef (rels rs) (0 + (↑k : Int).toNat * 6 + 1 + 1 + 1))).toNat (bits BinOp.or IntKind.u16 (0 : Int) (intOf' (getD' undef (rels rs) (0 + (↑k : Int).toNat * 6 + 1 + 1 + 1 + 1)))).toNat) : Int),.int .u16 (↑(mB (IntKind.u32.wrap ((0 : Int) + intOf' (getD' undef (rels rs) (0 + (↑k : Int).toNat * 6 + 1 + 1)))).toNat (intOf' (getD' undef (rels rs) (0 + (↑k : Int).toNat * 6 + 1 + 1 + 1))).toNat (bits BinOp.or IntKind.u16 (0 : Int) (intOf' (getD' undef (rels rs) (0 + (↑k : Int).toNat * 6 + 1 + 1 + 1 + 1)))).toNat) : Int),.int .u16 (↑(mT (IntKind.u32.wrap ((0 : Int) + intOf' (getD' undef (rels rs) (0 + (↑k : Int).toNat * 6 + 1 + 1)))).toNat (intOf' (getD' undef (rels rs) (0 + (↑k : Int).toNat * 6 + 1 + 1 + 1))).toNat (bits BinOp.or IntKind.u16 (0 : Int) (intOf' (getD' undef (rels rs) (0 + (↑k : Int).toNat * 6 + 1 + 1 + 1 + 1)))).toNat) : Int),.int .u16 (↑(mP (IntKind.u32.wrap ((0 : Int) + intOf' (getD' undef (rels rs) (0 + (↑k : Int).toNat * 6 + 1 + 1)))).toNat (intOf' (getD' undef (rels rs) (0 + (↑k : Int).toNat * 6 + 1 + 1 + 1))).toNat (bits BinOp.or IntKind.u16 (0 : Int) (intOf' (getD' undef (rels rs) (0 + (↑k : Int).toNat * 6 + 1 + 1 + 1 + 1)))).toNat) : Int),.int .u16 (intOf' (getD' undef (rels rs) (0 + (↑k : Int).toNat * 6 + 1 + 1 + 1 + 1 + 1))),.int .u32 0,.bool (mV (IntKind.u32.wrap ((0 : Int) + intOf' (getD' undef (rels rs) (0 + (↑k : Int).toNat * 6 + 1 + 1)))).toNat (intOf' (getD' undef (rels rs) (0 + (↑k : Int).toNat * 6 + 1 + 1 + 1))).toNat (bits BinOp.or IntKind.u16 (0 : Int) (intOf' (getD' undef (rels rs) (0 + (↑k : Int).toNat * 6 + 1 + 1 + 1 + 1)))).toNat)],none⟩),(103,⟨true,none,[Value.int .u32 (↑(mA (IntKind.u32.wrap ((0 : Int) + intOf' (getD' undef (rels rs) (0 + (↑k : Int).toNat * 6 + 1 + 1)))).toNat (intOf' (getD' undef (rels rs) (0 + (↑k : Int).toNat * 6 + 1 + 1 + 1))).toNat (bits BinOp.or IntKind.u16 (0 : Int) (intOf' (getD' undef (rels rs) (0 + (↑k : Int).toNat * 6 + 1 + 1 + 1 + 1)))).toNat) : Int),.int .u8 (↑(mE (IntKind.u32.wrap ((0 : Int) + intOf' (getD' undef (rels rs) (0 + (↑k : Int).toNat * 6 + 1 + 1)))).toNat (intOf' (getD' undef (rels rs) (0 + (↑k : Int).toNat * 6 + 1 + 1 + 1))).toNat (bits BinOp.or IntKind.u16 (0 : Int) (intOf' (getD' undef (rels rs) (0 + (↑k : Int).toNat * 6 + 1 + 1 + 1 + 1)))).toNat) : Int),.int .u16 (↑(mB (IntKind.u32.wrap ((0 : Int) + intOf' (getD' undef (rels rs) (0 + (↑k : Int).toNat * 6 + 1 + 1)))).toNat (intOf' (getD' undef (rels rs) (0 + (↑k : Int).toNat * 6 + 1 + 1 + 1))).toNat (bits BinOp.or IntKind.u16 (0 : Int) (intOf' (getD' undef (rels rs) (0 + (↑k : Int).toNat * 6 + 1 + 1 + 1 + 1)))).toNat) : Int),.int .u16 (↑(mT (IntKind.u32.wrap ((0 : Int) + intOf' (getD' undef (rels rs) (0 + (↑k : Int).toNat * 6 + 1 + 1)))).toNat (intOf' (getD' undef (rels rs) (0 + (↑k : Int).toNat * 6 + 1 + 1 + 1))).toNat (bits BinOp.or IntKind.u16 (0 : Int) (intOf' (getD' undef (rels rs) (0 + (↑k : Int).toNat * 6 + 1 + 1 + 1 + 1)))).toNat) : Int),.int .u16 (↑(mP (IntKind.u32.wrap ((0 : Int) + intOf' (getD' undef (rels rs) (0 + (↑k : Int).toNat * 6 + 1 + 1)))).toNat (intOf' (getD' undef (rels rs) (0 + (↑k : Int).toNat * 6 + 1 + 1 + 1))).toNat (bits BinOp.or IntKind.u16 (0 : Int) (intOf' (getD' undef (rels rs) (0 + (↑k : Int).toNat * 6 + 1 + 1 + 1 + 1)))).toNat) : Int),.int .u16 (intOf' (getD' undef (rels rs) (0 + (↑k : Int).toNat * 6 + 1 + 1 + 1 + 1 + 1))),.int .u32 0,.bool (mV (IntKind.u32.wrap ((0 : Int) + intOf' (getD' undef (rels rs) (0 + (↑k : Int).toNat * 6 + 1 + 1)))).toNat (intOf' (getD' undef (rels rs) (0 + (↑k : Int).toNat * 6 + 1 + 1 + 1))).toNat (bits BinOp.or IntKind.u16 (0 : Int) (intOf' (getD' undef (rels rs) (0 + (↑k : Int).toNat * 6 + 1 + 1 + 1 + 1)))).toNat)],none⟩),(102,⟨true,none,[Value.int .u32 (↑(mA (IntKind.u32.wrap ((0 : Int) + intOf' (getD' undef (rels rs) (0 + (↑k : Int).toNat * 6 + 1 + 1)))).toNat (intOf' (getD' undef (rels rs) (0 + (↑k : Int).toNat * 6 + 1 + 1 + 1))).toNat (bits BinOp.or IntKind.u16 (0 : Int) (intOf' (getD' undef (rels rs) (0 + (↑k : Int).toNat * 6 + 1 + 1 + 1 + 1)))).toNat) : Int),.int .u8 (↑(mE (IntKind.u32.wrap ((0 : Int) + intOf' (getD' undef (rels rs) (0 + (↑k : Int).toNat * 6 + 1 + 1)))).toNat (intOf' (getD' undef (rels rs) (0 + (↑k : Int).toNat * 6 + 1 + 1 + 1))).toNat (bits BinOp.or IntKind.u16 (0 : Int) (intOf' (getD' undef (rels rs) (0 + (↑k : Int).toNat * 6 + 1 + 1 + 1 + 1)))).toNat) : Int),.int .u16 (↑(mB (IntKind.u32.wrap ((0 : Int) + intOf' (getD' undef (rels rs) (0 + (↑k : Int).toNat * 6 + 1 + 1)))).toNat (intOf' (getD' undef (rels rs) (0 + (↑k : Int).toNat * 6 + 1 + 1 + 1))).toNat (bits BinOp.or IntKind.u16 (0 : Int) (intOf' (getD' undef (rels rs) (0 + (↑k : Int).toNat * 6 + 1 + 1 + 1 + 1)))).toNat) : Int),.int .u16 (↑(mT (IntKind.u32.wrap ((0 : Int) + intOf' (getD' undef (rels rs) (0 + (↑k : Int).toNat * 6 + 1 + 1)))).toNat (intOf' (getD' undef (rels rs) (0 + (↑k : Int).toNat * 6 + 1 + 1 + 1))).toNat (bits BinOp.or IntKind.u16 (0 : Int) (intOf' (getD' undef (rels rs) (0 + (↑k : Int).toNat * 6 + 1 + 1 + 1 + 1)))).toNat) : Int),.int .u16 (↑(mP (IntKind.u32.wrap ((0 : Int) + intOf' (getD' undef (rels rs) (0 + (↑k : Int).toNat * 6 + 1 + 1)))).toNat (intOf' (getD' undef (rels rs) (0 + (↑k : Int).toNat * 6 + 1 + 1 + 1))).toNat (bits BinOp.or IntKind.u16 (0 : Int) (intOf' (getD' undef (rels rs) (0 + (↑k : Int).toNat * 6 + 1 + 1 + 1 + 1)))).toNat) : Int),.int .u16 (intOf' (getD' undef (rels rs) (0 + (↑k : Int).toNat * 6 + 1 + 1 + 1 + 1 + 1))),.int .u32 0,.bool (mV (IntKind.u32.wrap ((0 : Int) + intOf' (getD' undef (rels rs) (0 + (↑k : Int).toNat * 6 + 1 + 1)))).toNat (intOf' (getD' undef (rels rs) (0 + (↑k : Int).toNat * 6 + 1 + 1 + 1))).toNat (bits BinOp.or IntKind.u16 (0 : Int) (intOf' (getD' undef (rels rs) (0 + (↑k : Int).toNat * 6 + 1 + 1 + 1 + 1)))).toNat)],none⟩),(93,⟨true,none,[Value.int .u32 (intOf' (getD' undef (rels rs) (0 + (↑k : Int).toNat * 6))),.bool (boolOf' (getD' undef (rels rs) (0 + (↑k : Int).toNat * 6 + 1))),.int .u32 (intOf' (getD' undef (rels rs) (0 + (↑k : Int).toNat * 6 + 1 + 1))),.int .u32 (intOf' (getD' undef (rels rs) (0 + (↑k : Int).toNat * 6 + 1 + 1 + 1))),.int .u16 (intOf' (getD' undef (rels rs) (0 + (↑k : Int).toNat * 6 + 1 + 1 + 1 + 1))),.int .u16 (intOf' (getD' undef (rels rs) (0 + (↑k : Int).toNat * 6 + 1 + 1 + 1 + 1 + 1)))],none⟩),(70,⟨true,none,[Value.slice (some ⟨104,0,none⟩) (l.length + 1) 9223372036854775912],none⟩),(69,⟨false,none,[Value.int .i64 (↑p),.int .i64 (↑s),.int .i64 (↑t),.slice (some ⟨64,0,none⟩) nc 9223372036854775872,.string ⟨⟨d⟩⟩,.slice (some ⟨65,0,none⟩) rs.length 9223372036854775873,.slice (some ⟨66,0,none⟩) ns 9223372036854775874,.int .u32 0,.int .u32 (↑c),.int .u32 (↑da),.int .u32 (↑ds),.int .u32 (↑sa),.int .u32 (↑ss),.int .u32 (↑ha),.int .u32 (↑hs)],none⟩),(65,⟨false,some (0,0),rels rs,none⟩)],lo:=[(104,l.length + 1),(92,l.length)],esc:=0,T:=[],k:=2,O:=bif (lenT (cpL l)).beq (l.length * 8) then bif ((l.length + 1) * 24).ble 1099511627776 && (l.length + 1).blt 4611686018427387904 then ((bif hasN (0 + (↑k : Int).toNat * 6 + 6) (rels rs) && isLikeL [Value.int .u32 0,.bool false,.int .u32 0,.int .u32 0,.int .u16 0,.int .u16 0] (rels rs) (0 + (↑k : Int).toNat * 6) then bif decide ((0 : Int) ≤ (↑k : Int)) && decide ((↑k : Int) < (↑rs.length : Int)) then True ∧ decide ((↑k : Int) < (↑rs.length : Int)) = true else False else False) ∧ boolOf' (getD' undef (rels rs) (0 + (↑k : Int).toNat * 6 + 1)) = true) ∧ ((0 : Int) ≤ IntKind.u32.wrap ((0 : Int) + intOf' (getD' undef (rels rs) (0 + (↑k : Int).toNat * 6 + 1 + 1))) ∧ IntKind.u32.wrap ((0 : Int) + intOf' (getD' undef (rels rs) (0 + (↑k : Int).toNat * 6 + 1 + 1))) < (4294967296 : Int) ∧ (0 : Int) ≤ intOf' (getD' undef (rels rs) (0 + (↑k : Int).toNat * 6 + 1 + 1 + 1)) ∧ intOf' (getD' undef (rels rs) (0 + (↑k : Int).toNat * 6 + 1 + 1 + 1)) < (4294967296 : Int) ∧ (0 : Int) ≤ bits BinOp.or IntKind.u16 (0 : Int) (intOf' (getD' undef (rels rs) (0 + (↑k : Int).toNat * 6 + 1 + 1 + 1 + 1)))) ∧ (rr (Value.agg ⟨[.int .u32 (IntKind.u32.wrap ((0 : Int) + intOf' (getD' undef (rels rs) (0 + (↑k : Int).toNat * 6 + 1 + 1)))),.int .u32 (intOf' (getD' undef (rels rs) (0 + (↑k : Int).toNat * 6 + 1 + 1 + 1)))]⟩) ∧ rr (Value.int .u16 (bits BinOp.or IntKind.u16 (0 : Int) (intOf' (getD' undef (rels rs) (0 + (↑k : Int).toNat * 6 + 1 + 1 + 1 + 1))))) ∧ True) ∧ True ∧ True else False else False : St } : Fr }):=by kernel_rfl
theorem btr_e (p : Nat) (s : Nat) (t : Nat) (nc : Nat) (ns : Nat) (d : List UInt8) (rs : List Rl) (c : Nat) (da : Nat) (ds : Nat) (sa : Nat) (ss : Nat) (ha : Nat) (hs : Nat) (l : List Cp) (k : Nat) : evC Try.prog (evF Try.prog noBase noLoop 100 20) (noLoop 8) 70 100 (loopOf Try.prog 8 1) (Sf.frT 70 (btrI p s t nc ns d rs c da ds sa ss ha hs l k) [(0,false)]) = some (Exit.exit 2,{ e:=[[unk,.pointer (some ⟨67,0,none⟩),.slice none 0 0,.int .i64 0,.pointer (some ⟨68,0,none⟩),.int .i64 0,.pointer (some ⟨69,0,none⟩),.pointer (some ⟨70,0,none⟩),.func (Fn.func 24) { toList:=[] } { toList:=[Value.pointer (some ⟨70,0,none⟩)] },unk,unk,unk,unk,unk,unk,unk],[unk,unk,unk,unk,unk,unk,unk,unk,unk,unk,unk,unk,unk,unk,unk,unk],[unk,unk,unk,unk,unk,unk,unk,unk,unk,unk,unk,unk,unk,unk,unk,unk],[unk,unk,unk,unk,unk,unk,unk,unk,unk,.slice (some ⟨65,0,none⟩) rs.length 9223372036854775873,.int .i64 (↑rs.length),.int .i64 (↑k),.bool (decide ((↑k : Int) < (↑rs.length : Int))),unk,unk,unk],[unk,unk,unk,unk,unk,unk,unk,unk,unk,unk,unk,unk,unk,unk,unk,unk]],s:={ n:=93,h:=[(70,⟨true,none,[Value.slice (some ⟨92,0,none⟩) l.length 9223372036854775900],none⟩),(92,⟨true,some (92,8),cpL l,none⟩),(69,⟨false,none,[Value.int .i64 (↑p),.int .i64 (↑s),.int .i64 (↑t),.slice (some ⟨64,0,none⟩) nc 9223372036854775872,.string ⟨⟨d⟩⟩,.slice (some ⟨65,0,none⟩) rs.length 9223372036854775873,.slice (some ⟨66,0,none⟩) ns 9223372036854775874,.int .u32 0,.int .u32 (↑c),.int .u32 (↑da),.int .u32 (↑ds),.int .u32 (↑sa),.int .u32 (↑ss),.int .u32 (↑ha),.int .u32 (↑hs)],none⟩),(65,⟨false,some (0,0),rels rs,none⟩)],lo:=[(92,l.length)],esc:=0,T:=[],k:=1,O:=True ∧ decide ((↑k : Int) < (↑rs.length : Int)) = false : St } : Fr }):=by kernel_rfl
end Go.Proofs.Ytliidiceljdgmaa
namespace Go.Proofs.Ytliidiceljdgmaa
open Go.RowKit
open Sy
theorem idx_a (bs : List Bool) (v : Bool) (cap : Nat) (k : Nat) : evC Try.prog noBase (noLoop 91) 19 100 (loopOf Try.prog 91 0) (Sf.frT 19 (idxI bs v cap k) [(0,true),(1,true)]) = some (Exit.ret,{ e:=[[Value.slice (some ⟨64,0,none⟩) bs.length cap,.bool v,unk,unk,.int .i64 (↑k),.int .i64 (↑k),unk,.int .i64 (↑bs.length),.int .i64 (↑k),.bool (decide ((↑k : Int) < (↑bs.length : Int))),.int .i64 (↑k),.bool v,.slice (some ⟨64,0,none⟩) bs.length cap,.int .i64 (↑k),.pointer (some { block:=64,off:=0 + (↑k : Int).toNat * 1 }),.bool (boolOf' (getD' undef (bools bs) (0 + (↑k : Int).toNat * 1)))],[Value.bool (v == boolOf' (getD' undef (bools bs) (0 + (↑k : Int).toNat * 1))),.int .i64 (↑k),unk,unk,unk,unk,unk,unk,unk,unk,unk,unk,unk,unk,unk,unk]],s:={ n:=65,h:=[(64,{ rw:=false,op:=none,cells:=bools bs,it:=none })],lo:=[],esc:=0,T:=[],k:=2,O:=(bif hasN (0 + (↑k : Int).toNat * 1 + 1) (bools bs) && isLikeL [Value.bool false] (bools bs) (0 + (↑k : Int).toNat * 1) then bif decide ((0 : Int) ≤ (↑k : Int)) && decide ((↑k : Int) < (↑bs.length : Int)) then True ∧ decide ((↑k : Int) < (↑bs.length : Int)) = true else False else False) ∧ (v == boolOf' (getD' undef (bools bs) (0 + (↑k : Int).toNat * 1))) = true } }):=by kernel_rfl
theorem idx_b (bs : List Bool) (v : Bool) (cap : Nat) (k : Nat) : evC Try.prog noBase (noLoop 91) 19 100 (loopOf Try.prog 91 0) (Sf.frT 19 (idxI bs v cap k) [(0,true),(1,false)]) = some (Exit.normal,{ e:=[[Value.slice (some ⟨64,0,none⟩) bs.length cap,.bool v,unk,unk,unk,.int .i64 (↑k),unk,.int .i64 (↑bs.length),.int .i64 (IntKind.i64.wrap ((↑k : Int) + (1 : Int))),.bool (decide ((↑k : Int) < (↑bs.length : Int))),.int .i64 (↑k),.bool v,.slice (some ⟨64,0,none⟩) bs.length cap,.int .i64 (↑k),.pointer (some { block:=64,off:=0 + (↑k : Int).toNat * 1 }),.bool (boolOf' (getD' undef (bools bs) (0 + (↑k : Int).toNat * 1)))],[Value.bool (v == boolOf' (getD' undef (bools bs) (0 + (↑k : Int).toNat * 1))),unk,.int .i64 (IntKind.i64.wrap ((↑k : Int) + (1 : Int))),unk,unk,unk,unk,unk,unk,unk,unk,unk,unk,unk,unk,unk]],s:={ n:=65,h:=[(64,{ rw:=false,op:=none,cells:=bools bs,it:=none })],lo:=[],esc:=0,T:=[],k:=2,O:=(bif hasN (0 + (↑k : Int).toNat * 1 + 1) (bools bs) && isLikeL [Value.bool false] (bools bs) (0 + (↑k : Int).toNat * 1) then bif decide ((0 : Int) ≤ (↑k : Int)) && decide ((↑k : Int) < (↑bs.length : Int)) then True ∧ decide ((↑k : Int) < (↑bs.length : Int)) = true else False else False) ∧ (v == boolOf' (getD' undef (bools bs) (0 + (↑k : Int).toNat * 1))) = false } }):=by kernel_rfl
theorem idx_c (bs : List Bool) (v : Bool) (cap : Nat) (k : Nat) : evC Try.prog noBase (noLoop 91) 19 100 (loopOf Try.prog 91 0) (Sf.frT 19 (idxI bs v cap k) [(0,false)]) = some (Exit.exit 0,{ e:=[[Value.slice (some ⟨64,0,none⟩) bs.length cap,.bool v,unk,unk,unk,unk,unk,.int .i64 (↑bs.length),.int .i64 (↑k),.bool (decide ((↑k : Int) < (↑bs.length : Int))),unk,unk,unk,unk,unk,unk],[unk,unk,unk,unk,unk,unk,unk,unk,unk,unk,unk,unk,unk,unk,unk,unk]],s:={ n:=65,h:=[(64,{ rw:=false,op:=none,cells:=bools bs,it:=none })],lo:=[],esc:=0,T:=[],k:=1,O:=True ∧ decide ((↑k : Int) < (↑bs.length : Int)) = false } }):=by kernel_rfl
theorem ng65 : NG ≤ 65:=by decide
def idxF (j : Nat) : Sf:=⟨65,[(4,.int .i64 (j : Nat))],[],[]⟩
def idxN : Sf:=⟨65,[],[],[]⟩
theorem idxI_wf (bs : List Bool) (v : Bool) (cap k : Nat) (hc : Nat.blt cap big = true) : (idxI bs v cap k).Wf :=
 ⟨ng65,Sf.Ok.mk' 3 ⟨⟨rfl,rfl,flat_bnd (bools_flat bs)⟩,trivial⟩ rfl (by simp [idxI,okV,bndA,hc,flat0])⟩
theorem idx_next (bs : List Bool) (v : Bool) (cap k : Nat) (e : Sf) (hc : Nat.blt cap big = true) (hl : bs.length < 9000000000000000000) (hk : k < bs.length) (hv : bs.getD k false ≠ v) (hn : e.n = 65) (he : e.Ok (keeps 65 65 id (fun l => Nat.blt l 65))) :
  ∃ g,evC Try.prog noBase (noLoop 91) 19 100 (loopOf Try.prog 91 0) ((idxI bs v cap k).frT 19 [(0,true),(1,false)]) = some (.normal,g) ∧ g.s.O ∧
   Sf.Leads 3 (fun l => Nat.blt l 65) id (idxI bs v cap k) g (idxI bs v cap (k + 1)) e:=by
 refine ⟨_,idx_b bs v cap k,?_,?_⟩
 ·simp only [rr, tt, bools_has,bools_like,bools_at,Int.toNat_natCast,Nat.zero_add,Nat.mul_one]
  exact ⟨bif_true (by simp; omega) (bif_true (by simp; omega) ⟨trivial,by simp; omega⟩),by simpa using fun e : v = _ => hv e.symm⟩
 ·refine ⟨fun _ _ => rfl,⟨⟨rfl,flat_all (bools_flat bs),rfl,rfl,rfl,trivial,(flat_map (bools_flat bs)).symm⟩,trivial⟩,rfl,trivial,⟨⟨?_,by rw [rnV_id]; kernel_rfl⟩,⟨rfl,by kernel_rfl⟩,⟨rfl,by kernel_rfl⟩,⟨rfl,?_⟩,trivial⟩,Nat.le_refl _,fun l hl => blt_no hl,?_,?_⟩
  ·simp [okV,bndA,hc]
  ·refine Eq.trans (b:=Value.int .i64 (IntKind.i64.wrap ((k : Int) + 1))) (by kernel_rfl) ?_
   rw [cast_succ_i64 k (by omega)]; rfl
  ·rw [hn]; exact he
  ·intro x _ _; exact .inl rfl
theorem idx_found (bs : List Bool) (v : Bool) (cap j : Nat) (hc : Nat.blt cap big = true) (hl : bs.length < 9000000000000000000) (hj : j < bs.length) (hv : bs.getD j false = v) (hn : ∀ i,i < j → bs.getD i false ≠ v) :
  ∀ x : { k : Nat // k ≤ j },LoopOk Try.prog 19 (loopOf Try.prog 91 0) ((idxI bs v cap x.1).fr 19) .ret ((idxF j).fr 19):=by
 refine loop_ok (L:=100) (noBase_ok _) (noLoop_any _ _ 91) (fun _ h => h) (X:={ k : Nat // k ≤ j }) (fun x => idxI bs v cap x.1) (fun _ => idxF j) (fun _ => .ret) (fun x => j - x.1) (fun x => idxI_wf bs v cap x.1 hc) ?_
 rintro ⟨k,hk⟩
 by_cases h : k = j
 ·subst h
  refine ⟨[(0,true),(1,true)],.ret,_,3,fun l => Nat.blt l 65,id,idx_a bs v cap k,?_,.inr ⟨by simp,rfl,?_⟩⟩
  ·simp only [rr, tt, bools_has,bools_like,bools_at,Int.toNat_natCast,Nat.zero_add,Nat.mul_one,hv]
   exact ⟨bif_true (by simp; omega) (bif_true (by simp; omega) ⟨trivial,by simp; omega⟩),by simp⟩
  ·exact ⟨fun _ _ => rfl,trivial,rfl,trivial,⟨⟨rfl,by kernel_rfl⟩,trivial⟩,Nat.le_refl _,fun l hl => blt_no hl,Sf.Ok.mk' 3 trivial rfl (by simp [idxF,okV,flat0]),fun x hx => by cases hx⟩
 ·obtain ⟨g,h1,h2,h3⟩:=idx_next bs v cap k (idxF j) hc hl (by omega) (hn k (by omega)) rfl (Sf.Ok.mk' 3 trivial rfl (by simp [idxF,okV,flat0]))
  exact ⟨_,.normal,g,3,_,_,h1,h2,.inl ⟨rfl,⟨k + 1,by omega⟩,by show j - (k + 1) < j - k; omega,rfl,rfl,h3⟩⟩
theorem idx_none (bs : List Bool) (v : Bool) (cap : Nat) (hc : Nat.blt cap big = true) (hl : bs.length < 9000000000000000000) (hn : ∀ i,i < bs.length → bs.getD i false ≠ v) :
  ∀ x : { k : Nat // k ≤ bs.length },LoopOk Try.prog 19 (loopOf Try.prog 91 0) ((idxI bs v cap x.1).fr 19) (.exit 0) (idxN.fr 19):=by
 refine loop_ok (L:=100) (noBase_ok _) (noLoop_any _ _ 91) (fun _ h => h) (X:={ k : Nat // k ≤ bs.length }) (fun x => idxI bs v cap x.1) (fun _ => idxN) (fun _ => .exit 0) (fun x => bs.length - x.1) (fun x => idxI_wf bs v cap x.1 hc) ?_
 rintro ⟨k,hk⟩
 by_cases h : k < bs.length
 ·obtain ⟨g,h1,h2,h3⟩:=idx_next bs v cap k idxN hc hl h (hn k h) rfl (Sf.Ok.mk' 3 trivial rfl (by simp [idxN]))
  exact ⟨_,.normal,g,3,_,_,h1,h2,.inl ⟨rfl,⟨k + 1,by omega⟩,by show bs.length - (k + 1) < bs.length - k; omega,rfl,rfl,h3⟩⟩
 ·refine ⟨[(0,false)],.exit 0,_,3,fun l => Nat.blt l 65,id,idx_c bs v cap k,?_,.inr ⟨by simp,rfl,?_⟩⟩
  ·simp; omega
  ·exact ⟨fun _ _ => rfl,trivial,rfl,trivial,trivial,Nat.le_refl _,fun l hl => blt_no hl,Sf.Ok.mk' 3 trivial rfl (by simp [idxN]),fun x hx => by cases hx⟩
end Go.Proofs.Ytliidiceljdgmaa
namespace Go.Proofs.Ytliidiceljdgmaa
open Go.RowKit
open Sy
def idxEntF (bs : List Bool) (v : Bool) (cap j : Nat) (hc : Nat.blt cap big = true) (hl : bs.length < 9000000000000000000) (hj : j < bs.length) (hv : bs.getD j false = v) (hn : ∀ i,i < j → bs.getD i false ≠ v) : Ent Try.prog :=
 entC Try.prog 91 0 19 (idxI bs v cap 0) .ret (idxF j) (by kernel_rfl) (by kernel_rfl) (idx_found bs v cap j hc hl hj hv hn ⟨0,Nat.zero_le _⟩)
def idxEntN (bs : List Bool) (v : Bool) (cap : Nat) (hc : Nat.blt cap big = true) (hl : bs.length < 9000000000000000000) (hn : ∀ i,i < bs.length → bs.getD i false ≠ v) : Ent Try.prog :=
 entC Try.prog 91 0 19 (idxI bs v cap 0) (.exit 0) idxN (by kernel_rfl) (by kernel_rfl) (idx_none bs v cap hc hl hn ⟨0,Nat.zero_le _⟩)
def noneC (bs : List Bool) (cap : Nat) : Con:=⟨[.slice (some ⟨64,0,none⟩) bs.length cap],65,[(64,⟨false,none,bools bs,none⟩)],[],.bool (!bs.any id),65,[],[]⟩
def noneK (bs : List Bool) (cap : Nat) (T : List (Nat × Bool)) : St:={ (noneC bs cap).s0 with T:=T }
end Go.Proofs.Ytliidiceljdgmaa
namespace Go.Proofs.Ytliidiceljdgmaa
open Go.RowKit
open Sy
theorem none_f (bs : List Bool) (cap j : Nat) (hc : cap.blt big = true) (hl : bs.length < 9000000000000000000) (hj : j < bs.length) (hv : bs.getD j false = true) (hn : ∀ (i : Nat),i < j → bs.getD i false ≠ true) : evF Try.prog noBase (lpOf [idxEntF bs true cap j hc hl hj hv hn]) 100 5 44 [Value.slice (some ⟨64,0,none⟩) bs.length cap] (noneK bs cap [(10 ^ 9,true)]) = some (Value.bool !decide ((↑j:Int) ≥ (0:Int)),{ n:=65,h:=[(64,⟨false,none,bools bs,none⟩)],lo:=[],esc:=0,T:=[(1000000000,true)],k:=0,O:=True∧(rr (Value.slice (some ⟨64,0,none⟩) bs.length cap)∧rr (Value.bool true)∧rr (Value.int .i64 (↑bs.length))∧rr (Value.int .i64 0)∧True)∧((tt∧tt∧True∧rr (bools bs))∧True)∧True∧True : St }):=by kernel_rfl
theorem none_n (bs : List Bool) (cap : Nat) (hc : cap.blt big = true) (hl : bs.length < 9000000000000000000) (hn : ∀ (i : Nat),i < bs.length → bs.getD i false ≠ true) : evF Try.prog noBase (lpOf [idxEntN bs true cap hc hl hn]) 100 5 44 [Value.slice (some ⟨64,0,none⟩) bs.length cap] (noneK bs cap [(10 ^ 9,true)]) = some (Value.bool true,{ n:=65,h:=[(64,⟨false,none,bools bs,none⟩)],lo:=[],esc:=0,T:=[(1000000000,true)],k:=0,O:=True∧(rr (Value.slice (some ⟨64,0,none⟩) bs.length cap)∧rr (Value.bool true)∧rr (Value.int .i64 (↑bs.length))∧rr (Value.int .i64 0)∧True)∧((tt∧tt∧True∧rr (bools bs))∧True)∧True∧True : St }):=by kernel_rfl
theorem i_names : namesOk Try.prog = true:=by kernel_rfl
theorem least_of (bs : List Bool) (v : Bool) (h : ∃ i,i < bs.length ∧ bs.getD i false = v) : ∃ j,j < bs.length ∧ bs.getD j false = v ∧ ∀ i,i < j → bs.getD i false ≠ v:=by
 obtain ⟨i,hi,hv⟩:=h
 induction i using Nat.strongRecOn with
 | _ i ih =>
  by_cases h : ∃ k,k < i ∧ bs.getD k false = v
  ·obtain ⟨k,hk,hkv⟩:=h
   exact ih k hk (by omega) hkv
  ·exact ⟨i,hi,hv,fun k hk e => h ⟨k,hk,e⟩⟩
theorem any_getD (bs : List Bool) : bs.any id = true ↔ ∃ i,i < bs.length ∧ bs.getD i false = true:=by
 rw [List.any_eq_true]
 constructor
 ·rintro ⟨b,hb,h⟩
  obtain ⟨i,hi,rfl⟩:=List.getElem_of_mem hb
  exact ⟨i,hi,by rw [List.getD_eq_getElem?_getD,List.getElem?_eq_getElem hi]; exact h⟩
 ·rintro ⟨i,hi,h⟩
  rw [List.getD_eq_getElem?_getD,List.getElem?_eq_getElem hi] at h
  exact ⟨bs[i],List.getElem_mem hi,h⟩
theorem noneC_wf (bs : List Bool) (cap : Nat) (hc : Nat.blt cap big = true) : (noneC bs cap).Wf 3 :=
 ⟨ng65,Nat.le_refl _,⟨⟨rfl,rfl,flat_bnd (bools_flat bs)⟩,trivial⟩,rfl,rfl,rfl,by simp [noneC,okV,bndA,hc],rfl,fun x hx => by cases hx⟩
theorem none_ok (bs : List Bool) (cap : Nat) (hc : Nat.blt cap big = true) (hl : bs.length < 9000000000000000000) : ConOk Try.prog 44 3 (noneC bs cap):=by
 by_cases h : ∃ i,i < bs.length ∧ bs.getD i false = true
 ·obtain ⟨j,hj,hv,hn⟩:=least_of bs true h
  refine conOk_run (run_ok i_names (noBase_ok _) (lpOf_ok _) 5) (noneC_wf bs cap hc) (none_f bs cap j hc hl hj hv hn) ?_ (p:=fun l => Nat.blt l 65) (σ:=id) ?_
  ·exact ⟨trivial,⟨rfl,rfl,rfl,rfl,trivial⟩,⟨⟨rfl,rfl,trivial,rfl⟩,trivial⟩,trivial,trivial⟩
  ·have : bs.any id = true:=(any_getD bs).2 h
   refine ⟨fun _ _ => rfl,trivial,rfl,trivial,⟨rfl,?_⟩,rfl,trivial,rfl,bnd_bool _ _,fun x hx => by cases hx⟩
   rw [rnV_id]; simp [noneC,this]
 ·have hn : ∀ i,i < bs.length → bs.getD i false ≠ true:=fun i hi e => h ⟨i,hi,e⟩
  refine conOk_run (run_ok i_names (noBase_ok _) (lpOf_ok _) 5) (noneC_wf bs cap hc) (none_n bs cap hc hl hn) ?_ (p:=fun l => Nat.blt l 65) (σ:=id) ?_
  ·exact ⟨trivial,⟨rfl,rfl,rfl,rfl,trivial⟩,⟨⟨rfl,rfl,trivial,rfl⟩,trivial⟩,trivial,trivial⟩
  ·have : bs.any id = false:=by
    cases hb : bs.any id
    ·rfl
    ·exact absurd ((any_getD bs).1 hb) h
   refine ⟨fun _ _ => rfl,trivial,rfl,trivial,⟨rfl,?_⟩,rfl,trivial,rfl,bnd_bool _ _,fun x hx => by cases hx⟩
   rw [rnV_id]; simp [noneC,this]
end Go.Proofs.Ytliidiceljdgmaa
namespace Go.Proofs.Ytliidiceljdgmaa
open Go.RowKit
open Sy
def boolsOf (l : List Value) : List Bool:=l.map boolOf'
def selNone : SelC:=fun f args s => bif Nat.beq f 44 then
 match args with
 | [.slice (some a) _ cap] => (Sy.look s.h a.block).map fun k => (noneC (boolsOf k.cells) cap,[a.block],Nat.blt cap big = true ∧ (boolsOf k.cells).length < 9000000000000000000)
 | _ => none
 else none
theorem selNone_ok : SelOk Try.prog 3 selNone:=by
 intro f args s c ρ q h hq
 unfold selNone at h
 obtain ⟨h1,h⟩:=bif_some h
 have h1:=eB h1
 subst h1
 split at h
 ·obtain ⟨k,_,h⟩:=oM h
  simp only [rr, tt, Prod.mk.injEq] at h
  obtain ⟨rfl,rfl,rfl⟩:=h
  exact none_ok _ _ hq.1 hq.2
 ·cases h
def inU32 (x : Int) : Prop:=0 ≤ x ∧ x < 4294967296
def inU64 (x : Int) : Prop:=0 ≤ x ∧ x < 18446744073709551616
def padC (x : Int) : Con:=Con.pure [.int .u32 x] (.tuple ⟨[.int .u32 (padN x.toNat : Nat),.int .u32 (padA x.toNat : Nat)]⟩)
def encC (b t : Int) : Con:=Con.pure [.int .u32 b,.int .u64 t] (.tuple ⟨[.int .u8 (encE b.toNat t.toNat : Nat),.int .u16 (encB b.toNat t.toNat : Nat),.int .u16 (encT b.toNat t.toNat : Nat),.bool (encX b.toNat t.toNat),.bool (rightN b.toNat t.toNat)]⟩)
def selBnd : SelC:=fun f args _ =>
 match args with
 | [.int _ x] => bif Nat.beq f 92 then some (padC x,[],inU32 x) else bif Nat.beq f 99 then some (padC x,[],inU32 x) else none
 | [.int _ b,.int _ t] => bif Nat.beq f 74 then some (encC b t,[],inU32 b ∧ inU64 t) else bif Nat.beq f 98 then some (encC b t,[],inU32 b ∧ inU64 t) else none
 | _ => none
theorem below_n {w w' : World} (h : ∃ m,w' = w.drewN m) : Below w.heap.size w w':=by
 obtain ⟨m,rfl⟩:=h
 exact below_drewN (Below.refl _ _) m
theorem padC_ok {f : FuncId} (he : Enters Try.prog f) (h : ∀ (s : Nat) (w : World),s < 4294967296 → Calls Try.prog f #[.int .u32 s] w fun e' w' => e' = .returned (.tuple #[.int .u32 (padN s),.int .u32 (padA s)]) ∧ ∃ m,w' = w.drewN m) (x : Int) (hx : inU32 x) : ConOk Try.prog f 3 (padC x):=by
 refine conOk_pure he (fun u hu => ?_) rfl fun w => ?_
 ·obtain rfl:=List.mem_singleton.1 hu; rfl
 ·have:=h x.toNat w (by have:=hx.1; have:=hx.2; omega)
  rw [show ((x.toNat : Nat) : Int) = x from Int.toNat_of_nonneg hx.1] at this
  exact this.mono fun _ _ ⟨a,b⟩ => ⟨a,below_n b⟩
theorem encC_ok {f : FuncId} (he : Enters Try.prog f) (h : ∀ (b t : Nat) (w : World),b < 4294967296 → t < 18446744073709551616 → Calls Try.prog f #[.int .u32 b,.int .u64 t] w fun e' w' => e' = .returned (.tuple #[.int .u8 (encE b t),.int .u16 (encB b t),.int .u16 (encT b t),.bool (encX b t),.bool (rightN b t)]) ∧ ∃ m,w' = w.drewN m)
  (b t : Int) (hb : inU32 b) (ht : inU64 t) : ConOk Try.prog f 3 (encC b t):=by
 refine conOk_pure he (fun u hu => ?_) rfl fun w => ?_
 ·rcases List.mem_cons.1 hu with rfl | hu
  ·rfl
  ·obtain rfl:=List.mem_singleton.1 hu; rfl
 ·have:=h b.toNat t.toNat w (by have:=hb.1; have:=hb.2; omega) (by have:=ht.1; have:=ht.2; omega)
  rw [show ((b.toNat : Nat) : Int) = b from Int.toNat_of_nonneg hb.1,show ((t.toNat : Nat) : Int) = t from Int.toNat_of_nonneg ht.1] at this
  exact this.mono fun _ _ ⟨a,b⟩ => ⟨a,below_n b⟩
theorem selBnd_ok : SelOk Try.prog 3 selBnd:=by
 intro f args s c ρ q h hq
 unfold selBnd at h
 split at h
 ·rename_i k x
  cases h1 : Nat.beq f 92 <;> rw [h1] at h
  ·simp only [rr, tt, cond_false] at h
   obtain ⟨h2,h⟩:=bif_some h
   have h2:=eB h2
   subst h2
   cases h
   exact padC_ok (enters_b i_names (by kernel_rfl)) (fun s w hs => rpad_any s w hs) x hq
  ·cases h
   have h1:=eB h1
   subst h1
   exact padC_ok (enters_b i_names (by kernel_rfl)) (fun s w hs => pad_any s w hs) x hq
 ·rename_i k b k' t
  cases h1 : Nat.beq f 74 <;> rw [h1] at h
  ·simp only [rr, tt, cond_false] at h
   obtain ⟨h2,h⟩:=bif_some h
   have h2:=eB h2
   subst h2
   cases h
   exact encC_ok (enters_b i_names (by kernel_rfl)) (fun b t w hb ht => rencode_any b t w hb ht) b t hq.1 hq.2
  ·cases h
   have h1:=eB h1
   subst h1
   exact encC_ok (enters_b i_names (by kernel_rfl)) (fun b t w hb ht => encode_any b t w hb ht) b t hq.1 hq.2
 ·cases h
def selI : SelC:=selOr selNone selBnd
theorem selI_ok : SelOk Try.prog 3 selI:=selOr_ok selNone_ok selBnd_ok
end Go.Proofs.Ytliidiceljdgmaa
namespace Go.Proofs.Ytliidiceljdgmaa
open Go.RowKit
open Sy
theorem sized_r (n : Int) : obs (evF Try.prog (baseC 3 selI) noLoop 100 10 73 [Value.int .i64 n] (stT [])) = some (Value.tuple { toList:=[Value.int .u32 (↑(padN (bits BinOp.andNot IntKind.u32 (IntKind.u32.wrap (IntKind.i64.wrap (IntKind.i64.wrap (n+(256:Int)) - (1:Int)))) (255:Int)).toNat):Int),.int .u32 (if (256:Int) > (↑(padA (bits BinOp.andNot IntKind.u32 (IntKind.u32.wrap (IntKind.i64.wrap (IntKind.i64.wrap (n+(256:Int)) - (1:Int)))) (255:Int)).toNat):Int) then (256:Int) else (↑(padA (bits BinOp.andNot IntKind.u32 (IntKind.u32.wrap (IntKind.i64.wrap (IntKind.i64.wrap (n+(256:Int)) - (1:Int)))) (255:Int)).toNat):Int))] },True∧((0:Int) ≤ bits BinOp.andNot IntKind.u32 (IntKind.u32.wrap (IntKind.i64.wrap (IntKind.i64.wrap (n+(256:Int)) - (1:Int)))) (255:Int)∧bits BinOp.andNot IntKind.u32 (IntKind.u32.wrap (IntKind.i64.wrap (IntKind.i64.wrap (n+(256:Int)) - (1:Int)))) (255:Int) < (4294967296:Int))∧(rr (Value.int .u32 (bits BinOp.andNot IntKind.u32 (IntKind.u32.wrap (IntKind.i64.wrap (IntKind.i64.wrap (n+(256:Int)) - (1:Int)))) (255:Int)))∧True)∧True∧True):=by kernel_rfl
theorem rsized_r (n : Int) : obs (evF Try.prog (baseC 3 selI) noLoop 100 10 79 [Value.int .u32 n] (stT [])) = some (Value.tuple { toList:=[Value.int .u32 (↑(padN (IntKind.u32.wrap (IntKind.u32.wrap ((IntKind.u32.wrap (IntKind.u32.wrap (n+(256:Int)) - (1:Int))).tdiv (256:Int)) * (256:Int))).toNat):Int),.int .u32 (if (256:Int) > (↑(padA (IntKind.u32.wrap (IntKind.u32.wrap ((IntKind.u32.wrap (IntKind.u32.wrap (n+(256:Int)) - (1:Int))).tdiv (256:Int)) * (256:Int))).toNat):Int) then (256:Int) else (↑(padA (IntKind.u32.wrap (IntKind.u32.wrap ((IntKind.u32.wrap (IntKind.u32.wrap (n+(256:Int)) - (1:Int))).tdiv (256:Int)) * (256:Int))).toNat):Int))] },True∧((0:Int) ≤ IntKind.u32.wrap (IntKind.u32.wrap ((IntKind.u32.wrap (IntKind.u32.wrap (n+(256:Int)) - (1:Int))).tdiv (256:Int)) * (256:Int))∧IntKind.u32.wrap (IntKind.u32.wrap ((IntKind.u32.wrap (IntKind.u32.wrap (n+(256:Int)) - (1:Int))).tdiv (256:Int)) * (256:Int)) < (4294967296:Int))∧(rr (Value.int .u32 (IntKind.u32.wrap (IntKind.u32.wrap ((IntKind.u32.wrap (IntKind.u32.wrap (n+(256:Int)) - (1:Int))).tdiv (256:Int)) * (256:Int))))∧True)∧True∧True):=by kernel_rfl
theorem and_high32 (a e : Nat) (ha : a < 4294967296) (he : e ≤ 32) : a &&& (4294967295 - (2 ^ e - 1)) = a / 2 ^ e * 2 ^ e:=by
 have h0:=pow_pos2 e
 have h2 : 2 ^ e ≤ 2 ^ 32:=Nat.pow_le_pow_right (by omega) he
 have h1 : 4294967295 - (2 ^ e - 1) = 2 ^ 32 - ((2 ^ e - 1) + 1):=by omega
 rw [h1]
 apply Nat.eq_of_testBit_eq
 intro i
 rw [Nat.testBit_and,Nat.testBit_two_pow_sub_succ (by omega),Nat.testBit_two_pow_sub_one,Nat.testBit_mul_two_pow,Nat.testBit_div_two_pow]
 by_cases hi : e ≤ i
 ·rw [Nat.sub_add_cancel hi]
  have e1 : decide (i < e) = false:=by simp; omega
  have e2 : decide (e ≤ i) = true:=by simpa using hi
  rw [e1,e2]
  by_cases h64 : i < 32
  ·have e3 : decide (i < 32) = true:=by simpa using h64
   rw [e3]; simp
  ·have : a.testBit i = false:=Nat.testBit_lt_two_pow (Nat.lt_of_lt_of_le ha (Nat.pow_le_pow_right (n:=2) (by omega) (show 32 ≤ i by omega)))
   rw [this]; simp
 ·have e1 : decide (i < e) = true:=by simp; omega
  have e2 : decide (e ≤ i) = false:=by simpa using hi
  rw [e1,e2]; simp
theorem struck (a e : Nat) (ha : a < 4294967296) (he : e ≤ 31) : bits .andNot .u32 (a : Int) (((2 ^ e - 1 : Nat)) : Int) = ((a / 2 ^ e * 2 ^ e : Nat) : Int):=by
 have h2 : 2 ^ e ≤ 2 ^ 31:=Nat.pow_le_pow_right (by omega) he
 rw [u32_andNot_nat a (2 ^ e - 1) ha (by omega),and_high32 a e ha (by omega)]
def r256 (n : Nat) : Nat:=(n + 255) / 256 * 256
theorem sized_in (n : Nat) (h : n ≤ 1000000) : bits .andNot .u32 (IntKind.u32.wrap (IntKind.i64.wrap (IntKind.i64.wrap ((n : Int) + 256) - 1))) 255 = ((r256 n : Nat) : Int):=by
 have e1 : IntKind.u32.wrap (IntKind.i64.wrap (IntKind.i64.wrap ((n : Int) + 256) - 1)) = ((n + 255 : Nat) : Int):=by
  rw [wrap_i64 (x:=(n : Int) + 256) (by omega) (by omega),wrap_i64 (by omega) (by omega),IntKind.wrap_u32]; omega
 rw [e1]
 exact struck (n + 255) 8 (by omega) (by omega)
theorem rsized_in (n : Nat) (h : n ≤ 1000000) : IntKind.u32.wrap (IntKind.u32.wrap ((IntKind.u32.wrap (IntKind.u32.wrap ((n : Int) + 256) - 1)).tdiv 256) * 256) = ((r256 n : Nat) : Int):=by
 have e1 : IntKind.u32.wrap (IntKind.u32.wrap ((n : Int) + 256) - 1) = ((n + 255 : Nat) : Int):=by
  rw [IntKind.wrap_u32,IntKind.wrap_u32]; omega
 rw [e1,show ((256 : Int)) = ((256 : Nat) : Int) from rfl,← Int.ofNat_tdiv,IntKind.wrap_u32,IntKind.wrap_u32]
 unfold r256; omega
theorem max_in (a : Nat) : (if (256 : Int) > (a : Int) then (256 : Int) else (a : Int)) = ((max a 256 : Nat) : Int):=by split <;> omega
theorem pad_256 (n : Nat) (h : n ≤ 100000) : padN (r256 n) = r256 n ∧ max (padA (r256 n)) 256 = 256:=by
 have hs : r256 n ≤ 100352:=by unfold r256; omega
 have he : expoN 0 (r256 n) ≤ 6:=by
  rcases Nat.lt_or_ge 6 (expoN 0 (r256 n)) with hlt | hge
  ·have:=expo_least hlt
   unfold fitsN at this
   have h1:=up_lt (r256 n) 6
   have h2:=dn_le 0 6
   simp only [rr, tt, decide_eq_false_iff_not] at this
   omega
  ·exact hge
 have hu : upN (r256 n) (expoN 0 (r256 n)) = r256 n:=by
  have:=up_mul ((n + 255) / 256) 8 (expoN 0 (r256 n)) (by omega)
  exact this
 have hp : 2 ^ expoN 0 (r256 n) ≤ 2 ^ 6:=Nat.pow_le_pow_right (by omega) he
 unfold padN padA
 rw [hu,if_neg (by omega),if_neg (by omega)]
 exact ⟨rfl,by omega⟩
def sizedV (x : Int) : Value:=.tuple ⟨[.int .u32 (r256 x.toNat : Nat),.int .u32 256]⟩
def sizedC (x : Int) : Con:=Con.pure [.int .i64 x] (sizedV x)
def rsizedC (x : Int) : Con:=Con.pure [.int .u32 x] (sizedV x)
def szOk (x : Int) : Prop:=0 ≤ x ∧ x ≤ 100000
theorem sizedC_ok (x : Int) (h : szOk x) : ConOk Try.prog 73 3 (sizedC x):=by
 obtain ⟨n,rfl⟩:=Int.eq_ofNat_of_zero_le h.1
 have hn : n ≤ 100000:=by have:=h.2; omega
 have hr:=sized_r (n : Int)
 rw [sized_in n (by omega),Int.toNat_natCast,max_in,(pad_256 n hn).1,(pad_256 n hn).2] at hr
 refine pure_run (run_ok i_names (baseC_ok selI_ok) (noLoop_ok _) 10) hr ?_ rfl rfl
 exact ⟨trivial,⟨by omega,by unfold r256; omega⟩,⟨rfl,trivial⟩,trivial,trivial⟩
theorem rsizedC_ok (x : Int) (h : szOk x) : ConOk Try.prog 79 3 (rsizedC x):=by
 obtain ⟨n,rfl⟩:=Int.eq_ofNat_of_zero_le h.1
 have hn : n ≤ 100000:=by have:=h.2; omega
 have hr:=rsized_r (n : Int)
 rw [rsized_in n (by omega),Int.toNat_natCast,max_in,(pad_256 n hn).1,(pad_256 n hn).2] at hr
 refine pure_run (run_ok i_names (baseC_ok selI_ok) (noLoop_ok _) 10) hr ?_ rfl rfl
 exact ⟨trivial,⟨by omega,by unfold r256; omega⟩,⟨rfl,trivial⟩,trivial,trivial⟩
def selSz : SelC:=fun f args _ =>
 match args with
 | [.int _ x] => bif Nat.beq f 73 then some (sizedC x,[],szOk x) else bif Nat.beq f 79 then some (rsizedC x,[],szOk x) else none
 | _ => none
theorem selSz_ok : SelOk Try.prog 3 selSz:=by
 intro f args s c ρ q h hq
 unfold selSz at h
 split at h
 ·rename_i k x
  cases h1 : Nat.beq f 73 <;> rw [h1] at h
  ·simp only [rr, tt, cond_false] at h
   obtain ⟨h2,h⟩:=bif_some h
   have h2:=eB h2
   subst h2
   cases h
   exact rsizedC_ok x hq
  ·cases h
   have h1:=eB h1
   subst h1
   exact sizedC_ok x hq
 ·cases h
def selJ : SelC:=selOr selSz selI
theorem selJ_ok : SelOk Try.prog 3 selJ:=selOr_ok selSz_ok selI_ok
end Go.Proofs.Ytliidiceljdgmaa
namespace Go.Proofs.Ytliidiceljdgmaa
open Go.RowKit
open Sy
theorem layout_big (pages stack types : Int) (nc nr ns : Nat) (data : List UInt8) : evF Try.prog (baseC 3 selJ) noLoop 100 10 47 [imgV pages stack types nc nr ns data] ⟨67,[],[],0,[(0,true)],0,True⟩ = some (Value.tuple { toList:=[Value.agg ⟨[.int .u32 0,.int .u32 0,.int .u32 0,.int .u32 0,.int .u32 0,.int .u32 0,.int .u32 0,.int .u32 0]⟩,.bool false] },{ n:=77,h:=[],lo:=[],esc:=0,T:=[],k:=1,O:=((True∧((0:Int) ≤ IntKind.i64.wrap ((4:Int) * (↑nc:Int))∧IntKind.i64.wrap ((4:Int) * (↑nc:Int)) ≤ (100000:Int))∧(rr (Value.int .i64 (IntKind.i64.wrap ((4:Int) * (↑nc:Int))))∧True)∧True∧True)∧((0:Int) ≤ (↑(lenT data):Int)∧(↑(lenT data):Int) ≤ (100000:Int))∧(rr (Value.int .i64 (↑(lenT data)))∧True)∧True∧True)∧decide (IntKind.u32.wrap (IntKind.u32.wrap (bits BinOp.andNot IntKind.u32 (IntKind.u32.wrap (IntKind.u32.wrap (IntKind.u32.wrap (bits BinOp.andNot IntKind.u32 (IntKind.u32.wrap (IntKind.u32.wrap (IntKind.u32.wrap ((0:Int)+(↑(r256 (IntKind.i64.wrap ((4:Int) * (↑nc:Int))).toNat):Int))+(256:Int)) - (1:Int))) (255:Int)+(↑(r256 (↑(lenT data):Int).toNat):Int))+(256:Int)) - (1:Int))) (255:Int)+IntKind.u32.wrap (IntKind.i64.wrap (stack * (↑ns:Int))))+(256:Int)) > IntKind.u32.wrap (IntKind.u32.wrap pages * (256:Int))) = true : St }):=by kernel_rfl
theorem layout_ok (pages stack types : Int) (nc nr ns : Nat) (data : List UInt8) : evF Try.prog (baseC 3 selJ) noLoop 100 10 47 [imgV pages stack types nc nr ns data] ⟨67,[],[],0,[(0,false)],0,True⟩ = some (Value.tuple { toList:=[Value.agg ⟨[.int .u32 0,.int .u32 (↑(r256 (IntKind.i64.wrap ((4:Int) * (↑nc:Int))).toNat):Int),.int .u32 (bits BinOp.andNot IntKind.u32 (IntKind.u32.wrap (IntKind.u32.wrap (IntKind.u32.wrap ((0:Int)+(↑(r256 (IntKind.i64.wrap ((4:Int) * (↑nc:Int))).toNat):Int))+(256:Int)) - (1:Int))) (255:Int)),.int .u32 (↑(r256 (↑(lenT data):Int).toNat):Int),.int .u32 (bits BinOp.andNot IntKind.u32 (IntKind.u32.wrap (IntKind.u32.wrap (IntKind.u32.wrap (bits BinOp.andNot IntKind.u32 (IntKind.u32.wrap (IntKind.u32.wrap (IntKind.u32.wrap ((0:Int)+(↑(r256 (IntKind.i64.wrap ((4:Int) * (↑nc:Int))).toNat):Int))+(256:Int)) - (1:Int))) (255:Int)+(↑(r256 (↑(lenT data):Int).toNat):Int))+(256:Int)) - (1:Int))) (255:Int)),.int .u32 (IntKind.u32.wrap (IntKind.i64.wrap (stack * (↑ns:Int)))),.int .u32 (bits BinOp.andNot IntKind.u32 (IntKind.u32.wrap (IntKind.u32.wrap (IntKind.u32.wrap (bits BinOp.andNot IntKind.u32 (IntKind.u32.wrap (IntKind.u32.wrap (IntKind.u32.wrap (bits BinOp.andNot IntKind.u32 (IntKind.u32.wrap (IntKind.u32.wrap (IntKind.u32.wrap ((0:Int)+(↑(r256 (IntKind.i64.wrap ((4:Int) * (↑nc:Int))).toNat):Int))+(256:Int)) - (1:Int))) (255:Int)+(↑(r256 (↑(lenT data):Int).toNat):Int))+(256:Int)) - (1:Int))) (255:Int)+IntKind.u32.wrap (IntKind.i64.wrap (stack * (↑ns:Int))))+(256:Int)) - (1:Int))) (255:Int)),.int .u32 (IntKind.u32.wrap (IntKind.u32.wrap (IntKind.u32.wrap pages * (256:Int)) - IntKind.u32.wrap (bits BinOp.andNot IntKind.u32 (IntKind.u32.wrap (IntKind.u32.wrap (IntKind.u32.wrap (bits BinOp.andNot IntKind.u32 (IntKind.u32.wrap (IntKind.u32.wrap (IntKind.u32.wrap ((0:Int)+(↑(r256 (IntKind.i64.wrap ((4:Int) * (↑nc:Int))).toNat):Int))+(256:Int)) - (1:Int))) (255:Int)+(↑(r256 (↑(lenT data):Int).toNat):Int))+(256:Int)) - (1:Int))) (255:Int)+IntKind.u32.wrap (IntKind.i64.wrap (stack * (↑ns:Int))))))]⟩,.bool true] },{ n:=79,h:=[],lo:=[],esc:=0,T:=[],k:=1,O:=((True∧((0:Int) ≤ IntKind.i64.wrap ((4:Int) * (↑nc:Int))∧IntKind.i64.wrap ((4:Int) * (↑nc:Int)) ≤ (100000:Int))∧(rr (Value.int .i64 (IntKind.i64.wrap ((4:Int) * (↑nc:Int))))∧True)∧True∧True)∧((0:Int) ≤ (↑(lenT data):Int)∧(↑(lenT data):Int) ≤ (100000:Int))∧(rr (Value.int .i64 (↑(lenT data)))∧True)∧True∧True)∧decide (IntKind.u32.wrap (IntKind.u32.wrap (bits BinOp.andNot IntKind.u32 (IntKind.u32.wrap (IntKind.u32.wrap (IntKind.u32.wrap (bits BinOp.andNot IntKind.u32 (IntKind.u32.wrap (IntKind.u32.wrap (IntKind.u32.wrap ((0:Int)+(↑(r256 (IntKind.i64.wrap ((4:Int) * (↑nc:Int))).toNat):Int))+(256:Int)) - (1:Int))) (255:Int)+(↑(r256 (↑(lenT data):Int).toNat):Int))+(256:Int)) - (1:Int))) (255:Int)+IntKind.u32.wrap (IntKind.i64.wrap (stack * (↑ns:Int))))+(256:Int)) > IntKind.u32.wrap (IntKind.u32.wrap pages * (256:Int))) = false : St }):=by kernel_rfl
theorem rlayout_big (pages stack types : Int) (nc nr ns : Nat) (data : List UInt8) : evF Try.prog (baseC 3 selJ) noLoop 100 10 57 [imgV pages stack types nc nr ns data] ⟨67,[],[],0,[(0,true)],0,True⟩ = some (Value.tuple { toList:=[Value.agg ⟨[.int .u32 0,.int .u32 0,.int .u32 0,.int .u32 0,.int .u32 0,.int .u32 0,.int .u32 0,.int .u32 0]⟩,.bool false] },{ n:=70,h:=[],lo:=[],esc:=0,T:=[],k:=1,O:=((True∧((0:Int) ≤ IntKind.u32.wrap ((4:Int) * IntKind.u32.wrap (↑nc))∧IntKind.u32.wrap ((4:Int) * IntKind.u32.wrap (↑nc)) ≤ (100000:Int))∧(rr (Value.int .u32 (IntKind.u32.wrap ((4:Int) * IntKind.u32.wrap (↑nc))))∧True)∧True∧True)∧((0:Int) ≤ IntKind.u32.wrap (↑(lenT data))∧IntKind.u32.wrap (↑(lenT data)) ≤ (100000:Int))∧(rr (Value.int .u32 (IntKind.u32.wrap (↑(lenT data))))∧True)∧True∧True)∧decide (IntKind.u32.wrap (IntKind.u32.wrap (IntKind.u32.wrap (IntKind.u32.wrap (IntKind.u32.wrap ((IntKind.u32.wrap (IntKind.u32.wrap ((↑(r256 (IntKind.u32.wrap ((4:Int) * IntKind.u32.wrap (↑nc))).toNat):Int)+(256:Int)) - (1:Int))).tdiv (256:Int)) * (256:Int))+(↑(r256 (IntKind.u32.wrap (↑(lenT data))).toNat):Int))+IntKind.u32.wrap (IntKind.i64.wrap (stack * (↑ns:Int))))+(256:Int)) > IntKind.u32.wrap (IntKind.i64.wrap (pages * (256:Int)))) = true : St }):=by kernel_rfl
theorem rlayout_ok (pages stack types : Int) (nc nr ns : Nat) (data : List UInt8) : evF Try.prog (baseC 3 selJ) noLoop 100 10 57 [imgV pages stack types nc nr ns data] ⟨67,[],[],0,[(0,false)],0,True⟩ = some (Value.tuple { toList:=[Value.agg ⟨[.int .u32 0,.int .u32 (↑(r256 (IntKind.u32.wrap ((4:Int) * IntKind.u32.wrap (↑nc))).toNat):Int),.int .u32 (IntKind.u32.wrap (IntKind.u32.wrap ((IntKind.u32.wrap (IntKind.u32.wrap ((↑(r256 (IntKind.u32.wrap ((4:Int) * IntKind.u32.wrap (↑nc))).toNat):Int)+(256:Int)) - (1:Int))).tdiv (256:Int)) * (256:Int))),.int .u32 (↑(r256 (IntKind.u32.wrap (↑(lenT data))).toNat):Int),.int .u32 (IntKind.u32.wrap (IntKind.u32.wrap (IntKind.u32.wrap ((IntKind.u32.wrap (IntKind.u32.wrap ((↑(r256 (IntKind.u32.wrap ((4:Int) * IntKind.u32.wrap (↑nc))).toNat):Int)+(256:Int)) - (1:Int))).tdiv (256:Int)) * (256:Int))+(↑(r256 (IntKind.u32.wrap (↑(lenT data))).toNat):Int))),.int .u32 (IntKind.u32.wrap (IntKind.i64.wrap (stack * (↑ns:Int)))),.int .u32 (IntKind.u32.wrap (IntKind.u32.wrap (IntKind.u32.wrap (IntKind.u32.wrap ((IntKind.u32.wrap (IntKind.u32.wrap ((↑(r256 (IntKind.u32.wrap ((4:Int) * IntKind.u32.wrap (↑nc))).toNat):Int)+(256:Int)) - (1:Int))).tdiv (256:Int)) * (256:Int))+(↑(r256 (IntKind.u32.wrap (↑(lenT data))).toNat):Int))+IntKind.u32.wrap (IntKind.i64.wrap (stack * (↑ns:Int))))),.int .u32 (IntKind.u32.wrap (IntKind.u32.wrap (IntKind.i64.wrap (pages * (256:Int))) - IntKind.u32.wrap (IntKind.u32.wrap (IntKind.u32.wrap (IntKind.u32.wrap ((IntKind.u32.wrap (IntKind.u32.wrap ((↑(r256 (IntKind.u32.wrap ((4:Int) * IntKind.u32.wrap (↑nc))).toNat):Int)+(256:Int)) - (1:Int))).tdiv (256:Int)) * (256:Int))+(↑(r256 (IntKind.u32.wrap (↑(lenT data))).toNat):Int))+IntKind.u32.wrap (IntKind.i64.wrap (stack * (↑ns:Int))))))]⟩,.bool true] },{ n:=70,h:=[],lo:=[],esc:=0,T:=[],k:=1,O:=((True∧((0:Int) ≤ IntKind.u32.wrap ((4:Int) * IntKind.u32.wrap (↑nc))∧IntKind.u32.wrap ((4:Int) * IntKind.u32.wrap (↑nc)) ≤ (100000:Int))∧(rr (Value.int .u32 (IntKind.u32.wrap ((4:Int) * IntKind.u32.wrap (↑nc))))∧True)∧True∧True)∧((0:Int) ≤ IntKind.u32.wrap (↑(lenT data))∧IntKind.u32.wrap (↑(lenT data)) ≤ (100000:Int))∧(rr (Value.int .u32 (IntKind.u32.wrap (↑(lenT data))))∧True)∧True∧True)∧decide (IntKind.u32.wrap (IntKind.u32.wrap (IntKind.u32.wrap (IntKind.u32.wrap (IntKind.u32.wrap ((IntKind.u32.wrap (IntKind.u32.wrap ((↑(r256 (IntKind.u32.wrap ((4:Int) * IntKind.u32.wrap (↑nc))).toNat):Int)+(256:Int)) - (1:Int))).tdiv (256:Int)) * (256:Int))+(↑(r256 (IntKind.u32.wrap (↑(lenT data))).toNat):Int))+IntKind.u32.wrap (IntKind.i64.wrap (stack * (↑ns:Int))))+(256:Int)) > IntKind.u32.wrap (IntKind.i64.wrap (pages * (256:Int)))) = false : St }):=by kernel_rfl
section
variable {P : Program} {call : CallK} {f : FuncId}
theorem conOk_flat (hcall : SoundCall P call) {args : List Value} {n : Nat} {T : List (Nat × Bool)} {v : Value} {s' : St} (hng : NG ≤ n) (ha : args.all (okV (fun l => Nat.blt l n) 3) = true) (h : call f args ⟨n,[],[],0,T,0,True⟩ = some (v,s')) (hO : s'.O) (hv : flat2 v = true) (hu : isU v = false) : ConOk P f 3 ⟨args,n,[],[],v,n,[],[]⟩:=by
 refine conOk_run hcall (T:=T) (v:=v) (s':=s') (p:=fun _ => false) (σ:=id) ⟨hng,Nat.le_refl _,trivial,rfl,rfl,rfl,ha,okV_flat2 hv 1,fun x hx => by cases hx⟩ h hO ?_
 exact ⟨fun _ _ => rfl,trivial,rfl,trivial,⟨okV_flat2 hv 1,(rnV_id 3 v).symm⟩,hu,trivial,rfl,bnd_flat2 _ hv,fun x hx => by cases hx⟩
end
def layFrom (stack : Int) (nc ns len : Nat) : Nat:=r256 (4 * nc) + r256 len + stack.toNat * ns
def layBig (pages stack : Int) (nc ns len : Nat) : Bool:=decide (layFrom stack nc ns len + 256 > pages.toNat * 256)
def pk (b : Bool) (x : Nat) : Int:=bif b then 0 else (x : Int)
def layA (pages stack : Int) (nc ns len : Nat) : Value :=
 .agg ⟨[.int .u32 0,.int .u32 (pk (layBig pages stack nc ns len) (r256 (4 * nc))),.int .u32 (pk (layBig pages stack nc ns len) (r256 (4 * nc))),.int .u32 (pk (layBig pages stack nc ns len) (r256 len)),.int .u32 (pk (layBig pages stack nc ns len) (r256 (4 * nc) + r256 len)),.int .u32 (pk (layBig pages stack nc ns len) (stack.toNat * ns)),.int .u32 (pk (layBig pages stack nc ns len) (layFrom stack nc ns len)),.int .u32 (pk (layBig pages stack nc ns len) (pages.toNat * 256 - layFrom stack nc ns len))]⟩
def layR (pages stack : Int) (nc ns len : Nat) : Value:=.tuple ⟨[layA pages stack nc ns len,.bool (!layBig pages stack nc ns len)]⟩
def layOk (pages stack : Int) (nc ns len : Nat) : Prop:=0 ≤ pages ∧ pages ≤ 1024 ∧ 0 ≤ stack ∧ stack ≤ 4096 ∧ stack % 256 = 0 ∧ nc ≤ 4096 ∧ ns ≤ 4 ∧ len ≤ 16384
def layC (pages stack types : Int) (nc nr ns : Nat) (data : List UInt8) : Con:=⟨[imgV pages stack types nc nr ns data],67,[],[],layR pages stack nc ns data.length,67,[],[]⟩
theorem alg256 (x : Nat) (h : x % 256 = 0) (hx : x ≤ 10000000) : bits .andNot .u32 (IntKind.u32.wrap (IntKind.u32.wrap ((x : Int) + 256) - 1)) 255 = (x : Int):=by
 have e1 : IntKind.u32.wrap (IntKind.u32.wrap ((x : Int) + 256) - 1) = ((x + 255 : Nat) : Int):=by
  rw [IntKind.wrap_u32,IntKind.wrap_u32]; omega
 have e2:=struck (x + 255) 8 (by omega) (by omega)
 rw [show (((2 ^ 8 - 1 : Nat)) : Int) = 255 from rfl] at e2
 rw [e1,e2]
 omega
theorem ralg256' (x : Nat) (h : x % 256 = 0) (hx : x ≤ 10000000) : IntKind.u32.wrap (IntKind.u32.wrap ((IntKind.u32.wrap (IntKind.u32.wrap ((x : Int) + 256) - 1)).tdiv 256) * 256) = (x : Int):=by
 have e1 : IntKind.u32.wrap (IntKind.u32.wrap ((x : Int) + 256) - 1) = ((x + 255 : Nat) : Int):=by
  rw [IntKind.wrap_u32,IntKind.wrap_u32]; omega
 rw [e1,show ((256 : Int)) = ((256 : Nat) : Int) from rfl,← Int.ofNat_tdiv,IntKind.wrap_u32,IntKind.wrap_u32]
 omega
theorem r256_mod (n : Nat) : r256 n % 256 = 0:=by unfold r256; omega
theorem r256_le (n : Nat) : r256 n ≤ n + 255:=by unfold r256; omega
theorem u32_nat (x : Nat) (h : x < 4294967296) : IntKind.u32.wrap (x : Int) = (x : Int):=by rw [IntKind.wrap_u32]; omega
theorem u32_add (x y : Nat) (h : x + y < 4294967296) : IntKind.u32.wrap ((x : Int) + (y : Int)) = ((x + y : Nat) : Int):=by rw [IntKind.wrap_u32]; omega
theorem layC_any {f : FuncId} {pages stack types : Int} {nc nr ns : Nat} {data : List UInt8} {T : List (Nat × Bool)} {s' : St} {v : Value} (h : evF Try.prog (baseC 3 selJ) noLoop 100 10 f [imgV pages stack types nc nr ns data] ⟨67,[],[],0,T,0,True⟩ = some (v,s')) (hv : v = layR pages stack nc ns data.length) (hO : s'.O) : ConOk Try.prog f 3 (layC pages stack types nc nr ns data):=by
 subst hv
 refine conOk_flat (run_ok i_names (baseC_ok selJ_ok) (noLoop_ok _) 10) (by decide) ?_ h hO rfl rfl
 kernel_rfl
theorem stack_ns {s ns : Nat} (h1 : s ≤ 4096) (h2 : ns ≤ 4) : s * ns ≤ 16384:=Nat.mul_le_mul h1 h2
theorem lay_prog (pages stack types : Int) (nc nr ns : Nat) (data : List UInt8) (h : layOk pages stack nc ns data.length) : ConOk Try.prog 47 3 (layC pages stack types nc nr ns data):=by
 obtain ⟨h1,h2,h3,h4,h5,h6,h7,h8⟩:=h
 obtain ⟨p,rfl⟩:=Int.eq_ofNat_of_zero_le h1
 obtain ⟨s,rfl⟩:=Int.eq_ofNat_of_zero_le h3
 have hs:=stack_ns (s:=s) (ns:=ns) (by omega) h7
 have q1:=r256_le (4 * nc)
 have q2:=r256_le data.length
 have m1:=r256_mod (4 * nc)
 have m2:=r256_mod data.length
 have m3 : s * ns % 256 = 0:=by rw [Nat.mul_mod,show s % 256 = 0 by omega]; simp
 have e1 : IntKind.i64.wrap ((4 : Int) * (nc : Int)) = ((4 * nc : Nat) : Int):=by rw [wrap_i64 (by omega) (by omega)]; omega
 have e2 : IntKind.u32.wrap ((0 : Int) + ((r256 (4 * nc) : Nat) : Int)) = ((r256 (4 * nc) : Nat) : Int):=by rw [IntKind.wrap_u32]; omega
 have e3 : IntKind.i64.wrap ((s : Int) * (ns : Int)) = ((s * ns : Nat) : Int):=by rw [Int.ofNat_mul_ofNat,wrap_i64 (by omega) (by omega)]
 have e4 : IntKind.u32.wrap (IntKind.u32.wrap (p : Int) * (256 : Int)) = ((p * 256 : Nat) : Int):=by rw [IntKind.wrap_u32,IntKind.wrap_u32]; omega
 have hd:=layout_big (p : Int) (s : Int) types nc nr ns data
 have hk:=layout_ok (p : Int) (s : Int) types nc nr ns data
 simp only [rr, tt, e1,Int.toNat_natCast,lenT_eq,e2,alg256 _ m1 (by omega),u32_add (r256 (4 * nc)) (r256 data.length) (by omega),alg256 (r256 (4 * nc) + r256 data.length) (by omega) (by omega),e3,u32_nat (s * ns) (by omega),u32_add (r256 (4 * nc) + r256 data.length) (s * ns) (by omega),alg256 (r256 (4 * nc) + r256 data.length + s * ns) (by omega) (by omega),e4] at hd hk
 cases hb : layBig (p : Int) (s : Int) nc ns data.length
 ·have hb' : r256 (4 * nc) + r256 data.length + s * ns + 256 ≤ p * 256:=by
   unfold layBig layFrom at hb; simp only [rr, tt, Int.toNat_natCast,decide_eq_false_iff_not] at hb; omega
  have e5 : IntKind.u32.wrap (((p * 256 : Nat) : Int) - ((r256 (4 * nc) + r256 data.length + s * ns : Nat) : Int)) = ((p * 256 - (r256 (4 * nc) + r256 data.length + s * ns) : Nat) : Int):=by rw [IntKind.wrap_u32]; omega
  rw [e5] at hk
  refine layC_any (T:=[(0,false)]) hk ?_ ?_
  ·unfold layR layA
   rw [hb]
   rfl
  ·refine ⟨⟨⟨trivial,⟨by omega,by omega⟩,⟨trivial,trivial⟩,trivial,trivial⟩,⟨by omega,by omega⟩,⟨trivial,trivial⟩,trivial,trivial⟩,?_⟩
   rw [IntKind.wrap_u32]
   simp only [rr, tt, decide_eq_false_iff_not]; omega
 ·have hb' : ¬ (r256 (4 * nc) + r256 data.length + s * ns + 256 ≤ p * 256):=by
   unfold layBig layFrom at hb; simp only [rr, tt, Int.toNat_natCast,decide_eq_true_eq] at hb; omega
  refine layC_any (T:=[(0,true)]) hd ?_ ?_
  ·unfold layR layA
   rw [hb]
   rfl
  ·refine ⟨⟨⟨trivial,⟨by omega,by omega⟩,⟨trivial,trivial⟩,trivial,trivial⟩,⟨by omega,by omega⟩,⟨trivial,trivial⟩,trivial,trivial⟩,?_⟩
   rw [IntKind.wrap_u32]
   simp only [rr, tt, decide_eq_true_eq]; omega
theorem lay_ref (pages stack types : Int) (nc nr ns : Nat) (data : List UInt8) (h : layOk pages stack nc ns data.length) : ConOk Try.prog 57 3 (layC pages stack types nc nr ns data):=by
 obtain ⟨h1,h2,h3,h4,h5,h6,h7,h8⟩:=h
 obtain ⟨p,rfl⟩:=Int.eq_ofNat_of_zero_le h1
 obtain ⟨s,rfl⟩:=Int.eq_ofNat_of_zero_le h3
 have hs:=stack_ns (s:=s) (ns:=ns) (by omega) h7
 have q1:=r256_le (4 * nc)
 have q2:=r256_le data.length
 have m1:=r256_mod (4 * nc)
 have m2:=r256_mod data.length
 have m3 : s * ns % 256 = 0:=by rw [Nat.mul_mod,show s % 256 = 0 by omega]; simp
 have e1 : IntKind.u32.wrap ((4 : Int) * IntKind.u32.wrap (nc : Int)) = ((4 * nc : Nat) : Int):=by rw [IntKind.wrap_u32,IntKind.wrap_u32]; omega
 have e2:=u32_nat data.length (by omega)
 have e3 : IntKind.i64.wrap ((s : Int) * (ns : Int)) = ((s * ns : Nat) : Int):=by rw [Int.ofNat_mul_ofNat,wrap_i64 (by omega) (by omega)]
 have e4 : IntKind.u32.wrap (IntKind.i64.wrap ((p : Int) * (256 : Int))) = ((p * 256 : Nat) : Int):=by rw [wrap_i64 (by omega) (by omega),IntKind.wrap_u32]; omega
 have hd:=rlayout_big (p : Int) (s : Int) types nc nr ns data
 have hk:=rlayout_ok (p : Int) (s : Int) types nc nr ns data
 simp only [rr, tt, e1,Int.toNat_natCast,lenT_eq,e2,ralg256' _ m1 (by omega),u32_add (r256 (4 * nc)) (r256 data.length) (by omega),e3,u32_nat (s * ns) (by omega),u32_add (r256 (4 * nc) + r256 data.length) (s * ns) (by omega),e4] at hd hk
 cases hb : layBig (p : Int) (s : Int) nc ns data.length
 ·have hb' : r256 (4 * nc) + r256 data.length + s * ns + 256 ≤ p * 256:=by
   unfold layBig layFrom at hb; simp only [rr, tt, Int.toNat_natCast,decide_eq_false_iff_not] at hb; omega
  have e5 : IntKind.u32.wrap (((p * 256 : Nat) : Int) - ((r256 (4 * nc) + r256 data.length + s * ns : Nat) : Int)) = ((p * 256 - (r256 (4 * nc) + r256 data.length + s * ns) : Nat) : Int):=by rw [IntKind.wrap_u32]; omega
  rw [e5] at hk
  refine layC_any (T:=[(0,false)]) hk ?_ ?_
  ·unfold layR layA
   rw [hb]
   rfl
  ·refine ⟨⟨⟨trivial,⟨by omega,by omega⟩,⟨trivial,trivial⟩,trivial,trivial⟩,⟨by omega,by omega⟩,⟨trivial,trivial⟩,trivial,trivial⟩,?_⟩
   rw [IntKind.wrap_u32]
   simp only [rr, tt, decide_eq_false_iff_not]; omega
 ·have hb' : ¬ (r256 (4 * nc) + r256 data.length + s * ns + 256 ≤ p * 256):=by
   unfold layBig layFrom at hb; simp only [rr, tt, Int.toNat_natCast,decide_eq_true_eq] at hb; omega
  refine layC_any (T:=[(0,true)]) hd ?_ ?_
  ·unfold layR layA
   rw [hb]
   rfl
  ·refine ⟨⟨⟨trivial,⟨by omega,by omega⟩,⟨trivial,trivial⟩,trivial,trivial⟩,⟨by omega,by omega⟩,⟨trivial,trivial⟩,trivial,trivial⟩,?_⟩
   rw [IntKind.wrap_u32]
   simp only [rr, tt, decide_eq_true_eq]; omega
def selLay : SelC:=fun f args _ =>
 match args with
 | [.agg ⟨[.int _ pages,.int _ stack,.int _ types,.slice (some a) nc _,.string ⟨⟨data⟩⟩,.slice (some b) nr _,.slice (some c) ns _]⟩] =>
  bif Nat.beq f 47 || Nat.beq f 57 then some (layC pages stack types nc nr ns data,[a.block,b.block,c.block],layOk pages stack nc ns data.length) else none
 | _ => none
theorem selLay_ok : SelOk Try.prog 3 selLay:=by
 intro f args s c ρ q h hq
 unfold selLay at h
 split at h
 ·obtain ⟨h2,h⟩:=bif_some h
  cases h
  simp only [rr, tt, Bool.or_eq_true] at h2
  rcases h2 with h2 | h2
  ·have h2:=eB h2
   subst h2
   exact lay_prog _ _ _ _ _ _ _ hq
  ·have h2:=eB h2
   subst h2
   exact lay_ref _ _ _ _ _ _ _ hq
 ·cases h
def selK : SelC:=selOr selLay selJ
theorem selK_ok : SelOk Try.prog 3 selK:=selOr_ok selLay_ok selJ_ok
end Go.Proofs.Ytliidiceljdgmaa
namespace Go.Proofs.Ytliidiceljdgmaa
open Go.RowKit
open Sy
def layW (a b c d e f g h : Int) : Value:=.agg ⟨[.int .u32 a,.int .u32 b,.int .u32 c,.int .u32 d,.int .u32 e,.int .u32 f,.int .u32 g,.int .u32 h]⟩
def relW (at_ : Int) (code : Bool) (off size perms typ : Int) : Value:=.agg ⟨[.int .u32 at_,.bool code,.int .u32 off,.int .u32 size,.int .u16 perms,.int .u16 typ]⟩
theorem right_dn (pages stack types : Int) (nc nr ns : Nat) (data : List UInt8) (a b c d e f g h x off size perms typ behind : Int) : evF Try.prog (baseC 3 selK) noLoop 100 10 48 [imgV pages stack types nc nr ns data,layW a b c d e f g h,relW x false off size perms typ,.int .u32 behind] ⟨67,[],[],0,[(1,true)],0,True⟩ = some (Value.bool false,{ n:=72,h:=[],lo:=[],esc:=0,T:=[],k:=2,O:=(True∧(tt∧6 < 9000000000000000000)∧(rr (Value.slice (some ⟨71,0,none⟩) 6 6)∧True)∧((tt∧tt∧tt∧tt∧tt∧True∧rr [Value.bool (x.tmod (16:Int) != (0:Int)),.bool (decide (x < behind)),.bool (decide (IntKind.u64.wrap (IntKind.u64.wrap x+(16:Int)) > IntKind.u64.wrap (↑(lenT data)))),.bool (decide (IntKind.u64.wrap (IntKind.u64.wrap off+IntKind.u64.wrap size) > IntKind.u64.wrap (↑(lenT data)))),.bool (bits BinOp.andNot IntKind.u16 perms (155:Int) != (0:Int)),.bool (decide (IntKind.i64.wrap typ > types))])∧True)∧True)∧(!!(x.tmod (16:Int) != (0:Int) || (decide (x < behind) || (decide (IntKind.u64.wrap (IntKind.u64.wrap x+(16:Int)) > IntKind.u64.wrap (↑(lenT data))) || (decide (IntKind.u64.wrap (IntKind.u64.wrap off+IntKind.u64.wrap size) > IntKind.u64.wrap (↑(lenT data))) || (bits BinOp.andNot IntKind.u16 perms (155:Int) != (0:Int) || (decide (IntKind.i64.wrap typ > types) || false))))))) = true : St }):=by kernel_rfl
theorem right_dy (pages stack types : Int) (nc nr ns : Nat) (data : List UInt8) (a b c d e f g h x off size perms typ behind : Int) : evF Try.prog (baseC 3 selK) noLoop 100 10 48 [imgV pages stack types nc nr ns data,layW a b c d e f g h,relW x false off size perms typ,.int .u32 behind] ⟨67,[],[],0,[(1,false)],0,True⟩ = some (Value.bool (encX (IntKind.u32.wrap (c+off)).toNat (IntKind.u64.wrap (IntKind.u64.wrap (IntKind.u32.wrap (c+off))+IntKind.u64.wrap size)).toNat),{ n:=72,h:=[],lo:=[],esc:=0,T:=[],k:=2,O:=((True∧(tt∧6 < 9000000000000000000)∧(rr (Value.slice (some ⟨71,0,none⟩) 6 6)∧True)∧((tt∧tt∧tt∧tt∧tt∧True∧rr [Value.bool (x.tmod (16:Int) != (0:Int)),.bool (decide (x < behind)),.bool (decide (IntKind.u64.wrap (IntKind.u64.wrap x+(16:Int)) > IntKind.u64.wrap (↑(lenT data)))),.bool (decide (IntKind.u64.wrap (IntKind.u64.wrap off+IntKind.u64.wrap size) > IntKind.u64.wrap (↑(lenT data)))),.bool (bits BinOp.andNot IntKind.u16 perms (155:Int) != (0:Int)),.bool (decide (IntKind.i64.wrap typ > types))])∧True)∧True)∧(!!(x.tmod (16:Int) != (0:Int) || (decide (x < behind) || (decide (IntKind.u64.wrap (IntKind.u64.wrap x+(16:Int)) > IntKind.u64.wrap (↑(lenT data))) || (decide (IntKind.u64.wrap (IntKind.u64.wrap off+IntKind.u64.wrap size) > IntKind.u64.wrap (↑(lenT data))) || (bits BinOp.andNot IntKind.u16 perms (155:Int) != (0:Int) || (decide (IntKind.i64.wrap typ > types) || false))))))) = false)∧(((0:Int) ≤ IntKind.u32.wrap (c+off)∧IntKind.u32.wrap (c+off) < (4294967296:Int))∧(0:Int) ≤ IntKind.u64.wrap (IntKind.u64.wrap (IntKind.u32.wrap (c+off))+IntKind.u64.wrap size)∧IntKind.u64.wrap (IntKind.u64.wrap (IntKind.u32.wrap (c+off))+IntKind.u64.wrap size) < (18446744073709551616:Int))∧(rr (Value.int .u32 (IntKind.u32.wrap (c+off)))∧rr (Value.int .u64 (IntKind.u64.wrap (IntKind.u64.wrap (IntKind.u32.wrap (c+off))+IntKind.u64.wrap size)))∧True)∧True∧True : St }):=by kernel_rfl
theorem right_cn (pages stack types : Int) (nc nr ns : Nat) (data : List UInt8) (a b c d e f g h x off size perms typ behind : Int) : evF Try.prog (baseC 3 selK) noLoop 100 10 48 [imgV pages stack types nc nr ns data,layW a b c d e f g h,relW x true off size perms typ,.int .u32 behind] ⟨67,[],[],0,[(1,true)],0,True⟩ = some (Value.bool false,{ n:=72,h:=[],lo:=[],esc:=0,T:=[],k:=2,O:=(True∧(tt∧6 < 9000000000000000000)∧(rr (Value.slice (some ⟨71,0,none⟩) 6 6)∧True)∧((tt∧tt∧tt∧tt∧tt∧True∧rr [Value.bool (x.tmod (16:Int) != (0:Int)),.bool (decide (x < behind)),.bool (decide (IntKind.u64.wrap (IntKind.u64.wrap x+(16:Int)) > IntKind.u64.wrap (↑(lenT data)))),.bool (decide (IntKind.u64.wrap (IntKind.u64.wrap off+IntKind.u64.wrap size) > IntKind.u64.wrap ((4:Int) * IntKind.u64.wrap (↑nc)))),.bool (bits BinOp.andNot IntKind.u16 perms (133:Int) != (0:Int)),.bool (decide (IntKind.i64.wrap typ > types))])∧True)∧True)∧(!!(x.tmod (16:Int) != (0:Int) || (decide (x < behind) || (decide (IntKind.u64.wrap (IntKind.u64.wrap x+(16:Int)) > IntKind.u64.wrap (↑(lenT data))) || (decide (IntKind.u64.wrap (IntKind.u64.wrap off+IntKind.u64.wrap size) > IntKind.u64.wrap ((4:Int) * IntKind.u64.wrap (↑nc))) || (bits BinOp.andNot IntKind.u16 perms (133:Int) != (0:Int) || (decide (IntKind.i64.wrap typ > types) || false))))))) = true : St }):=by kernel_rfl
theorem right_cy (pages stack types : Int) (nc nr ns : Nat) (data : List UInt8) (a b c d e f g h x off size perms typ behind : Int) : evF Try.prog (baseC 3 selK) noLoop 100 10 48 [imgV pages stack types nc nr ns data,layW a b c d e f g h,relW x true off size perms typ,.int .u32 behind] ⟨67,[],[],0,[(1,false)],0,True⟩ = some (Value.bool (encX (IntKind.u32.wrap (a+off)).toNat (IntKind.u64.wrap (IntKind.u64.wrap (IntKind.u32.wrap (a+off))+IntKind.u64.wrap size)).toNat),{ n:=72,h:=[],lo:=[],esc:=0,T:=[],k:=2,O:=((True∧(tt∧6 < 9000000000000000000)∧(rr (Value.slice (some ⟨71,0,none⟩) 6 6)∧True)∧((tt∧tt∧tt∧tt∧tt∧True∧rr [Value.bool (x.tmod (16:Int) != (0:Int)),.bool (decide (x < behind)),.bool (decide (IntKind.u64.wrap (IntKind.u64.wrap x+(16:Int)) > IntKind.u64.wrap (↑(lenT data)))),.bool (decide (IntKind.u64.wrap (IntKind.u64.wrap off+IntKind.u64.wrap size) > IntKind.u64.wrap ((4:Int) * IntKind.u64.wrap (↑nc)))),.bool (bits BinOp.andNot IntKind.u16 perms (133:Int) != (0:Int)),.bool (decide (IntKind.i64.wrap typ > types))])∧True)∧True)∧(!!(x.tmod (16:Int) != (0:Int) || (decide (x < behind) || (decide (IntKind.u64.wrap (IntKind.u64.wrap x+(16:Int)) > IntKind.u64.wrap (↑(lenT data))) || (decide (IntKind.u64.wrap (IntKind.u64.wrap off+IntKind.u64.wrap size) > IntKind.u64.wrap ((4:Int) * IntKind.u64.wrap (↑nc))) || (bits BinOp.andNot IntKind.u16 perms (133:Int) != (0:Int) || (decide (IntKind.i64.wrap typ > types) || false))))))) = false)∧(((0:Int) ≤ IntKind.u32.wrap (a+off)∧IntKind.u32.wrap (a+off) < (4294967296:Int))∧(0:Int) ≤ IntKind.u64.wrap (IntKind.u64.wrap (IntKind.u32.wrap (a+off))+IntKind.u64.wrap size)∧IntKind.u64.wrap (IntKind.u64.wrap (IntKind.u32.wrap (a+off))+IntKind.u64.wrap size) < (18446744073709551616:Int))∧(rr (Value.int .u32 (IntKind.u32.wrap (a+off)))∧rr (Value.int .u64 (IntKind.u64.wrap (IntKind.u64.wrap (IntKind.u32.wrap (a+off))+IntKind.u64.wrap size)))∧True)∧True∧True : St }):=by kernel_rfl
def whole (nc len : Nat) (code : Bool) : Nat:=bif code then 4 * nc else len
def allowed (code : Bool) : Int:=bif code then 133 else 155
def relBad (types : Int) (nc len : Nat) (r : Rl) (behind : Nat) : Bool :=
 decide (r.at_ % 16 ≠ 0) || (decide (r.at_ < behind) || (decide (r.at_ + 16 > len) || (decide (r.off + r.size > whole nc len r.code) || (bits .andNot .u16 (r.perms : Int) (allowed r.code) != 0 || decide ((r.typ : Int) > types)))))
def relRight (types : Int) (nc len a c : Nat) (r : Rl) (behind : Nat) : Bool:=!relBad types nc len r behind && encX ((bif r.code then a else c) + r.off) ((bif r.code then a else c) + r.off + r.size)
structure RlOk (r : Rl) : Prop where
 at_ : r.at_ < 4294967296
 off : r.off < 4294967296
 size : r.size < 4294967296
 perms : r.perms < 65536
 typ : r.typ < 65536
def relV (r : Rl) : Value:=relW r.at_ r.code r.off r.size r.perms r.typ
def rightC (pages stack types : Int) (nc nr ns : Nat) (data : List UInt8) (a : Nat) (b : Int) (c : Nat) (d e f g h : Int) (r : Rl) (behind : Nat) : Con :=
 ⟨[imgV pages stack types nc nr ns data,layW a b c d e f g h,relV r,.int .u32 (behind : Int)],67,[],[],.bool (relRight types nc data.length a c r behind),67,[],[]⟩
theorem right_or (types : Int) (nc len : Nat) (code : Bool) (at_ off size perms typ w : Nat) (pm : Int) (behind : Nat) (hr : RlOk ⟨at_,code,off,size,perms,typ⟩) (hn : nc ≤ 4096) (hl : len ≤ 16384) (hw : w = whole nc len code) (hp : pm = allowed code) :
  ((at_ : Int).tmod 16 != 0 || (decide ((at_ : Int) < (behind : Int)) || (decide (IntKind.u64.wrap (IntKind.u64.wrap (at_ : Int) + 16) > IntKind.u64.wrap (len : Int)) || (decide (IntKind.u64.wrap (IntKind.u64.wrap (off : Int) + IntKind.u64.wrap (size : Int)) > IntKind.u64.wrap (w : Int)) || (bits BinOp.andNot IntKind.u16 (perms : Int) pm != 0 || (decide (IntKind.i64.wrap (typ : Int) > types) || false)))))) = relBad types nc len ⟨at_,code,off,size,perms,typ⟩ behind:=by
 subst hw hp
 obtain ⟨h1,h2,h3,h4,h5⟩:=hr
 simp only [] at h1 h2 h3 h4 h5
 have hw : whole nc len code ≤ 16384:=by unfold whole; cases code <;> simp <;> omega
 unfold relBad
 rw [Bool.or_false]
 congr 1
 ·rw [show (16 : Int) = ((16 : Nat) : Int) from rfl,← Int.ofNat_tmod]
  rw [Bool.eq_iff_iff]; simp only [rr, tt, bne_iff_ne,ne_eq,decide_eq_true_eq]; omega
 congr 1
 ·rw [Bool.eq_iff_iff]; simp only [rr, tt, decide_eq_true_eq]; omega
 congr 1
 ·rw [Bool.eq_iff_iff,IntKind.wrap_u64,IntKind.wrap_u64,IntKind.wrap_u64]; simp only [rr, tt, decide_eq_true_eq]; omega
 congr 1
 ·rw [Bool.eq_iff_iff,IntKind.wrap_u64,IntKind.wrap_u64,IntKind.wrap_u64,IntKind.wrap_u64]; simp only [rr, tt, decide_eq_true_eq]; omega
 congr 1
 ·rw [wrap_i64 (by omega) (by omega)]
theorem exact_in (a : Nat) (r : Rl) (ha : a ≤ 100000) (ho : r.off + r.size ≤ 16384) : encX (IntKind.u32.wrap ((a : Int) + (r.off : Int))).toNat (IntKind.u64.wrap (IntKind.u64.wrap (IntKind.u32.wrap ((a : Int) + (r.off : Int))) + IntKind.u64.wrap (r.size : Int))).toNat = encX (a + r.off) (a + r.off + r.size):=by
 have e1 : IntKind.u32.wrap ((a : Int) + (r.off : Int)) = ((a + r.off : Nat) : Int):=by rw [IntKind.wrap_u32]; omega
 have e2 : IntKind.u64.wrap (IntKind.u64.wrap ((a + r.off : Nat) : Int) + IntKind.u64.wrap (r.size : Int)) = ((a + r.off + r.size : Nat) : Int):=by rw [IntKind.wrap_u64,IntKind.wrap_u64,IntKind.wrap_u64]; omega
 rw [e1,e2]; rfl
def rightOk (nc len : Nat) (a c : Nat) (r : Rl) : Prop:=RlOk r ∧ nc ≤ 4096 ∧ len ≤ 16384 ∧ a ≤ 100000 ∧ c ≤ 100000
theorem flat_any {f : FuncId} {args : List Value} {T : List (Nat × Bool)} {s' : St} {v v' : Value} (h : evF Try.prog (baseC 3 selK) noLoop 100 10 f args ⟨67,[],[],0,T,0,True⟩ = some (v,s')) (ha : args.all (okV (fun l => Nat.blt l 67) 3) = true) (hv : v = v') (hO : s'.O) (hf : flat2 v' = true) (hu : isU v' = false) : ConOk Try.prog f 3 ⟨args,67,[],[],v',67,[],[]⟩:=by
 subst hv
 exact conOk_flat (run_ok i_names (baseC_ok selK_ok) (noLoop_ok _) 10) (by decide) ha h hO hf hu
theorem right_prog (pages stack types : Int) (nc nr ns : Nat) (data : List UInt8) (a : Nat) (b : Int) (c : Nat) (d e f g h : Int) (r : Rl) (behind : Nat) (hq : rightOk nc data.length a c r) : ConOk Try.prog 48 3 (rightC pages stack types nc nr ns data a b c d e f g h r behind):=by
 obtain ⟨hr,hn,hl,ha,hc⟩:=hq
 have hb4 : IntKind.u64.wrap ((4 : Int) * IntKind.u64.wrap (nc : Int)) = IntKind.u64.wrap ((4 * nc : Nat) : Int):=by
  rw [IntKind.wrap_u64,IntKind.wrap_u64,IntKind.wrap_u64]; omega
 obtain ⟨at_,code,off,size,perms,typ⟩:=r
 have hall : ∀ x : Bool,(rightC pages stack types nc nr ns data a b c d e f g h ⟨at_,x,off,size,perms,typ⟩ behind).args.all (okV (fun l => Nat.blt l 67) 3) = true:=fun x => by kernel_rfl
 have hw : ∀ x,relBad types nc data.length ⟨at_,x,off,size,perms,typ⟩ behind = false → off + size ≤ 16384:=fun x hx => by
  unfold relBad at hx
  simp only [rr, tt, Bool.or_eq_false_iff,decide_eq_false_iff_not] at hx
  have h1:=hx.2.2.2.1
  have h2 : whole nc data.length x ≤ 16384:=by unfold whole; cases x <;> simp <;> omega
  omega
 have hO6 : (6 : Nat) < 9000000000000000000:=by omega
 cases code
 ·have hd:=right_dn pages stack types nc nr ns data a b c d e f g h at_ off size perms typ behind
  have hk:=right_dy pages stack types nc nr ns data a b c d e f g h at_ off size perms typ behind
  have ho:=right_or types nc data.length false at_ off size perms typ data.length 155 behind hr hn hl rfl rfl
  rw [lenT_eq,ho] at hd hk
  cases hb : relBad types nc data.length ⟨at_,false,off,size,perms,typ⟩ behind <;> rw [hb] at hd hk
  ·refine flat_any hk (hall false) ?_ ?_ rfl rfl
   ·have:=exact_in c ⟨at_,false,off,size,perms,typ⟩ hc (hw _ hb)
    simp only [] at this
    rw [this]; simp only [rr, tt, relRight,hb,Bool.not_false,Bool.true_and,cond_false]
   ·refine ⟨?_,?_⟩
    ·simp [hO6]
    ·simp only [rr, tt, IntKind.wrap_u64,IntKind.wrap_u32]
     refine ⟨⟨by omega,by omega⟩,?_,trivial,trivial⟩
     simp
  ·refine flat_any hd (hall false) ?_ ?_ rfl rfl
   ·simp only [rr, tt, relRight,hb,Bool.not_true,Bool.false_and]
   ·simp [hO6]
 ·have hd:=right_cn pages stack types nc nr ns data a b c d e f g h at_ off size perms typ behind
  have hk:=right_cy pages stack types nc nr ns data a b c d e f g h at_ off size perms typ behind
  have ho:=right_or types nc data.length true at_ off size perms typ (4 * nc) 133 behind hr hn hl rfl rfl
  rw [lenT_eq,hb4,ho] at hd hk
  cases hb : relBad types nc data.length ⟨at_,true,off,size,perms,typ⟩ behind <;> rw [hb] at hd hk
  ·refine flat_any hk (hall true) ?_ ?_ rfl rfl
   ·have:=exact_in a ⟨at_,true,off,size,perms,typ⟩ ha (hw _ hb)
    simp only [] at this
    rw [this]; simp only [rr, tt, relRight,hb,Bool.not_false,Bool.true_and,cond_true]
   ·refine ⟨?_,?_⟩
    ·simp [hO6]
    ·simp only [rr, tt, IntKind.wrap_u64,IntKind.wrap_u32]
     refine ⟨⟨by omega,by omega⟩,?_,trivial,trivial⟩
     simp
  ·refine flat_any hd (hall true) ?_ ?_ rfl rfl
   ·simp only [rr, tt, relRight,hb,Bool.not_true,Bool.false_and]
   ·simp [hO6]
end Go.Proofs.Ytliidiceljdgmaa
