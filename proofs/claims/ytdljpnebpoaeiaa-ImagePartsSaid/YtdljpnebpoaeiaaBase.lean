/-
  Plain words for memory (slices that read as lists, blocks known whole) and small lemmas; nothing of the program.
-/
import Derived.Below
import Derived.Calls
import Derived.Laws.OwnMore
import Derived.Deep.AppendLies
import Derived.Deep.Draws
import Derived.Laws.Rows
import Derived.Deep.QuietTactic
import Derived.Laws.Strings
import Derived.Laws.Strings2
import Derived.Laws.Concat
import Derived.Laws.BytesArg
import Derived.Laws.IdiomStrings
import Derived.Lib.Hide
namespace Go.Proofs.Ytdljpnebpoaeiaa
open Go.RowKit

/-- A fact that nothing unfolds. -/
structure Box (p : Prop) : Prop where
  out : p

theorem hide {p : Prop} (h : p) : Hid p := h
theorem unhide {p : Prop} (h : Hid p) : p := h

theorem block_of_add (a : Addr) (n : Nat) : (a.add n).block = a.block := by unfold Addr.add; split <;> rfl
theorem add_of_add (a : Addr) (i j : Nat) : (a.add i).add j = a.add (i + j) := by
  unfold Addr.add
  by_cases hi : i = 0 <;> by_cases hj : j = 0 <;> simp [hi, hj, Nat.add_assoc]

/-- The slice value '.slice A n _' holds the cells xs (size cells an element) and lies below block B. -/
def Reads (w : World) (B size : Nat) (A : Option Addr) (n : Nat) (xs : List Value) : Prop :=
  xs.length = n * size ∧ (0 < n → ∃ ad, A = some ad ∧ ad.block < B ∧ ∀ j u, xs[j]? = some u → w.cell? (ad.add j) = some u)

section
variable {w w' : World} {B B' size n : Nat} {A : Option Addr} {xs : List Value}
theorem Reads.none_ : Reads w B size A 0 [] := ⟨by simp, fun h => absurd h (by omega)⟩
theorem Reads.at_ {k : Nat} (h : Reads w B 1 A n xs) (hk : k < n) : ∃ ad u, A = some ad ∧ ad.block < B ∧ xs[k]? = some u ∧ w.cell? (ad.add k) = some u := by
  obtain ⟨ad, e, hb, hc⟩ := h.2 (by omega)
  have hl : k < xs.length := by have := h.1; omega
  exact ⟨ad, xs[k], e, hb, List.getElem?_eq_getElem hl, hc k _ (List.getElem?_eq_getElem hl)⟩
theorem Reads.keep (h : Reads w B size A n xs) (hk : ∀ p : Addr, p.block < B → w'.cell? p = w.cell? p) : Reads w' B size A n xs :=
  ⟨h.1, fun hn => by
    obtain ⟨ad, e, hb, hc⟩ := h.2 hn
    exact ⟨ad, e, hb, fun j u hu => (hk _ (by rw [block_of_add]; exact hb)).trans (hc j u hu)⟩⟩
theorem Reads.more (h : Reads w B size A n xs) (hB : B ≤ B') : Reads w B' size A n xs :=
  ⟨h.1, fun hn => by
    obtain ⟨ad, e, hb, hc⟩ := h.2 hn
    exact ⟨ad, e, by omega, hc⟩⟩
theorem Reads.below (h : Reads w B size A n xs) (hb : Below B w w') : Reads w' B size A n xs := h.keep fun _ hp => hb.cell hp
theorem Reads.drew (h : Reads w B size A n xs) : Reads w.drew B size A n xs := h
theorem Reads.drewN (h : Reads w B size A n xs) (k : Nat) : Reads (w.drewN k) B size A n xs := h
theorem Reads.alloc (h : Reads w B size A n xs) (hB : B ≤ w.heap.size) (o : Obj) : Reads (w.alloc o) B size A n xs := h.keep fun p hp => World.cell?_alloc_lt w o p (by omega)
theorem Reads.setCell (h : Reads w B size A n xs) {p : Addr} (hB : B ≤ p.block) (u : Value) : Reads (w.setCell p u) B size A n xs :=
  h.keep fun q hq => World.cell?_setCell_other w p q u (fun e => by subst e; omega)
theorem Reads.grown (h : Reads w B size A n xs) {row : Option Nat} (hg : w.grownBy w' row) (hB : B ≤ w.heap.size) (hr : ∀ g, row = some g → B ≤ g) : Reads w' B size A n xs :=
  h.keep fun p hp => World.cell?_of_block (hg.block p.block (by omega) (fun e => by have := hr _ e.symm; omega))
theorem Reads.cut (h : Reads w B size A n xs) {k cap : Nat} (hk : k ≤ n) (hc : n ≤ cap) :
    Reads w B size (if cap = k then A else A.map (·.add (k * size))) (n - k) (xs.drop (k * size)) := by
  refine ⟨by rw [List.length_drop, h.1, Nat.sub_mul], fun hn => ?_⟩
  obtain ⟨ad, rfl, hb, hcell⟩ := h.2 (by omega)
  rw [if_neg (by omega)]
  refine ⟨ad.add (k * size), rfl, by rw [block_of_add]; exact hb, fun j u hu => ?_⟩
  rw [add_of_add]
  exact hcell _ u (by rw [← hu, List.getElem?_drop])
theorem Reads.of_own {base : Nat} {e : TypeId} {c : Nat} (h : w.ownsRow base e size (.slice A n c) n xs) : Reads w w.heap.size size A n xs := by
  refine ⟨h.1, fun hn => ?_⟩
  obtain ⟨g, cap, hv, _, hlt⟩ := h.form hn
  have hA : A = some ⟨g, 0, none⟩ := by injection hv
  subst hA
  exact ⟨_, rfl, hlt, h.cells (g := g) rfl⟩
end

/-- Block g is just the cells cs of element type t, none frozen. -/
def Blk (w : World) (g : Nat) (t : TypeId) (cs : Array Value) : Prop := w.heap[g]? = some (.cells cs t (0, 0))

section
variable {w w' : World} {g : Nat} {t : TypeId} {cs : Array Value}
theorem Blk.lt (h : Blk w g t cs) : g < w.heap.size := by
  rcases Nat.lt_or_ge g w.heap.size with hlt | hge
  · exact hlt
  · unfold Blk at h; rw [Array.getElem?_eq_none hge] at h; cases h
theorem Blk.cell (h : Blk w g t cs) (i : Nat) : w.cell? ⟨g, i, none⟩ = cs[i]? := cell_of_row w g i cs t (0, 0) h
theorem Blk.frozen (h : Blk w g t cs) (i : Nat) : w.frozen? ⟨g, i, none⟩ = false := by
  unfold Blk at h
  simp [World.frozen?, h]
theorem Blk.new (w : World) (t : TypeId) (cs : Array Value) : Blk (w.alloc (.cells cs t)) w.heap.size t cs := heap_alloc_new w _
theorem Blk.drew (h : Blk w g t cs) : Blk w.drew g t cs := h
theorem Blk.drewN (h : Blk w g t cs) (n : Nat) : Blk (w.drewN n) g t cs := h
theorem Blk.alloc (h : Blk w g t cs) (o : Obj) : Blk (w.alloc o) g t cs := (Below.heap_alloc w o g h.lt).trans h
theorem Blk.set_ (h : Blk w g t cs) (i : Nat) (u : Value) : Blk (w.setCell ⟨g, i, none⟩ u) g t (cs.setIfInBounds i u) := by
  unfold Blk at h ⊢
  simp [World.setCell, Array.getElem?_modify, h]
theorem Blk.far (h : Blk w g t cs) {p : Addr} (hp : g ≠ p.block) (u : Value) : Blk (w.setCell p u) g t cs := (Below.heap_setCell w p u g hp).trans h
theorem Blk.below {B : Nat} (h : Blk w g t cs) (hb : Below B w w') (hg : g < B) : Blk w' g t cs := (hb.block g hg).trans h
theorem Blk.grown {row : Option Nat} (h : Blk w g t cs) (hb : w.grownBy w' row) (hg : some g ≠ row) : Blk w' g t cs := (hb.block g h.lt hg).trans h
end

/-- The slice value '.slice A n _' of one-cell elements holds the cells xs and lies below block B (n: the length of xs). -/
def Row (w : World) (B : Nat) (A : Option Addr) (xs : List Value) : Prop :=
  xs = [] ∨ ∃ g off, A = some ⟨g, off, none⟩ ∧ g < B ∧ ∀ j u, xs[j]? = some u → w.cell? ⟨g, off + j, none⟩ = some u

section
variable {w w' : World} {B B' : Nat} {A : Option Addr} {xs : List Value}
theorem Row.keep (h : Row w B A xs) (hk : ∀ p : Addr, p.block < B → w'.cell? p = w.cell? p) : Row w' B A xs := by
  rcases h with h | ⟨g, off, e, hb, hc⟩
  · exact .inl h
  · exact .inr ⟨g, off, e, hb, fun j u hu => (hk _ hb).trans (hc j u hu)⟩
theorem Row.more (h : Row w B A xs) (hB : B ≤ B') : Row w B' A xs := by
  rcases h with h | ⟨g, off, e, hb, hc⟩
  · exact .inl h
  · exact .inr ⟨g, off, e, by omega, hc⟩
theorem Row.below (h : Row w B A xs) (hb : Below B w w') : Row w' B A xs := h.keep fun _ hp => hb.cell hp
theorem Row.drew (h : Row w B A xs) : Row w.drew B A xs := h
theorem Row.drewN (h : Row w B A xs) (k : Nat) : Row (w.drewN k) B A xs := h
theorem Row.alloc (h : Row w B A xs) (hB : B ≤ w.heap.size) (o : Obj) : Row (w.alloc o) B A xs := h.keep fun p hp => World.cell?_alloc_lt w o p (by omega)
theorem Row.setCell (h : Row w B A xs) {p : Addr} (hB : B ≤ p.block) (u : Value) : Row (w.setCell p u) B A xs :=
  h.keep fun q hq => World.cell?_setCell_other w p q u (fun e => by subst e; omega)
theorem Row.cut (h : Row w B A xs) {k cap : Nat} (hk : k ≤ xs.length) (hc : xs.length ≤ cap) :
    Row w B (if cap = k then A else A.map (·.add (k * 1))) (xs.drop k) := by
  rcases Nat.lt_or_ge k xs.length with hlt | hge
  · rcases h with h | ⟨g, off, rfl, hb, hcell⟩
    · subst h; simp at hlt
    · rw [if_neg (by omega)]
      refine .inr ⟨g, off + k, ?_, hb, fun j u hu => ?_⟩
      · simp only [Option.map_some, Nat.mul_one, Addr.add]; split
        · rename_i h0; subst h0; rfl
        · rfl
      · rw [List.getElem?_drop] at hu
        rw [Nat.add_assoc]; exact hcell _ u hu
  · left; exact List.drop_eq_nil_of_le hge
theorem Row.take (h : Row w B A xs) (k : Nat) : Row w B A (xs.take k) := by
  rcases h with h | ⟨g, off, e, hb, hc⟩
  · exact .inl (by simp [h])
  · exact .inr ⟨g, off, e, hb, fun j u hu => hc j u (by
      rw [List.getElem?_take] at hu; split at hu
      · exact hu
      · cases hu)⟩
theorem Row.place (h : Row w B A xs) (hx : 0 < xs.length) : ∃ g off, A = some ⟨g, off, none⟩ ∧ g < B ∧ ∀ j u, xs[j]? = some u → w.cell? ⟨g, off + j, none⟩ = some u := by
  rcases h with h | h
  · subst h; simp at hx
  · exact h
end

/-- Bytes as cells. -/
def bytesV (l : List UInt8) : List Value := l.map fun b => .int .u8 b.toNat
theorem bytesV_length (l : List UInt8) : (bytesV l).length = l.length := by simp [bytesV]
theorem bytesV_get (l : List UInt8) (j : Nat) (h : j < l.length) : (bytesV l)[j]? = some (.int .u8 (l[j].toNat : Int)) := by simp [bytesV, h]

/-- A string of bytes. -/
def bs (l : List UInt8) : ByteArray := ⟨l.toArray⟩
theorem bs_of (s : ByteArray) : ∃ l, s = bs l := ⟨s.data.toList, by unfold bs; cases s; simp⟩
@[go_sem] theorem bs_size (l : List UInt8) : (bs l).size = l.length := by simp [bs, ByteArray.size]
@[go_sem] theorem bs_toList (l : List UInt8) : (bs l).toList = l := ByteArray.toList_mk l
@[go_sem] theorem bs_append (a b : List UInt8) : bs a ++ bs b = bs (a ++ b) := ByteArray.mk_append_mk a b
@[go_sem] theorem bs_extract (l : List UInt8) (a b : Nat) : (bs l).extract a b = bs ((l.drop a).take (b - a)) := ByteArray.extract_mk l a b
@[go_sem] theorem bs_get (l : List UInt8) (i : Nat) (h : i < (bs l).size) : (bs l)[i]'h = l[i]'(by simpa [bs_size] using h) := by
  simp [bs, ByteArray.getElem_eq_getElem_data]
theorem bs_inj {a b : List UInt8} (h : bs a = bs b) : a = b := by
  unfold bs at h; simpa using h

theorem vint {k : IntKind} {a b : Int} (h : a = b) : Value.int k a = Value.int k b := by rw [h]
theorem vstr {a b : List UInt8} (h : a = b) : Value.string (bs a) = Value.string (bs b) := by rw [h]
theorem ret_bs {a b : List UInt8} (h : a = b) : Ending.returned (.string (bs a)) = .returned (.string (bs b)) := by rw [h]
theorem ret2_bs {a b : List UInt8} {v : Value} (h : a = b) : Ending.returned (.tuple #[.string (bs a), v]) = .returned (.tuple #[.string (bs b), v]) := by rw [h]
theorem ret_int {k : IntKind} {a b : Int} (h : a = b) : Ending.returned (.int k a) = .returned (.int k b) := by rw [h]
theorem ret_bool {a b : Bool} (h : a = b) : Ending.returned (.bool a) = .returned (.bool b) := by rw [h]
theorem ret_string {a b : ByteArray} (h : a = b) : Ending.returned (.string a) = .returned (.string b) := by rw [h]
theorem ret2_int {k : IntKind} {a b : Int} {v : Value} (h : a = b) : Ending.returned (.tuple #[.int k a, v]) = .returned (.tuple #[.int k b, v]) := by rw [h]
theorem ret2_str {a b : ByteArray} {v : Value} (h : a = b) : Ending.returned (.tuple #[.string a, v]) = .returned (.tuple #[.string b, v]) := by rw [h]

/-- 'string([]byte{n})': the new block of one byte is read back. -/
theorem run_conv_one {P : Program} (src dst e : TypeId) (hs : P.underlying src = some (.slice e)) (he : P.underlying e = some (.int .u8)) (hd : P.underlying dst = some .string) (W : World) (n : Int) :
    (convert src dst (.slice (some ⟨W.heap.size, 0, none⟩) 1 1)).run P (W.alloc (.cells #[.int .u8 n] e)) = .ok (.string (bs [UInt8.ofNat n.toNat])) (W.alloc (.cells #[.int .u8 n] e)) := by
  have := run_convert_bytes_arg (P := P) (W.alloc (.cells #[.int .u8 n] e)) src e hs he W.heap.size 0 1 1 [n] rfl (by
    intro i hi
    obtain rfl : i = 0 := by omega
    exact cell_of_row _ W.heap.size 0 #[.int .u8 n] e (0, 0) (heap_alloc_new W _)) dst hd
  exact this

/-- Bytes stored one behind the other. -/
def setBytes (w : World) (g off : Nat) : List UInt8 → World
  | [] => w
  | b :: r => setBytes (w.setCell ⟨g, off, none⟩ (.int .u8 b.toNat)) g (off + 1) r
theorem setBytes_snoc (g : Nat) (l : List UInt8) (b : UInt8) : ∀ (w : World) (off : Nat), setBytes w g off (l ++ [b]) = (setBytes w g off l).setCell ⟨g, off + l.length, none⟩ (.int .u8 b.toNat) := by
  induction l with
  | nil => intro w off; rfl
  | cons x r ih =>
    intro w off
    rw [List.cons_append, setBytes, ih, setBytes, List.length_cons, show off + 1 + r.length = off + (r.length + 1) by omega]
theorem setBytes_below (g : Nat) (l : List UInt8) (B : Nat) (hB : B ≤ g) : ∀ (w0 w : World) (off : Nat), Below B w0 w → Below B w0 (setBytes w g off l) := by
  induction l with
  | nil => intro w0 w off h; exact h
  | cons x r ih => intro w0 w off h; exact ih _ _ _ (h.setCell (p := ⟨g, off, none⟩) hB _)
theorem setBytes_size (g : Nat) (l : List UInt8) : ∀ (w : World) (off : Nat), (setBytes w g off l).heap.size = w.heap.size := by
  induction l with
  | nil => intro w off; rfl
  | cons x r ih => intro w off; rw [setBytes, ih]; simp [World.setCell]
theorem setBytes_frozen (g : Nat) (l : List UInt8) (p : Addr) : ∀ (w : World) (off : Nat), (setBytes w g off l).frozen? p = w.frozen? p := by
  induction l with
  | nil => intro w off; rfl
  | cons x r ih => intro w off; rw [setBytes, ih]; simp
theorem setBytes_other (g : Nat) (l : List UInt8) (p : Addr) : ∀ (w : World) (off : Nat), (p.block ≠ g ∨ p.off < off ∨ off + l.length ≤ p.off) → (setBytes w g off l).cell? p = w.cell? p := by
  induction l with
  | nil => intro w off _; rfl
  | cons x r ih =>
    intro w off h
    rw [setBytes, ih _ _ (by simp only [List.length_cons] at h; omega), World.cell?_setCell_other]
    rintro rfl
    simp at h
    omega
theorem setBytes_at (g : Nat) (l : List UInt8) : ∀ (w : World) (off : Nat) (j : Nat) (h : j < l.length), (∀ i, i < l.length → ∃ u, w.cell? ⟨g, off + i, none⟩ = some u) → (setBytes w g off l).cell? ⟨g, off + j, none⟩ = some (.int .u8 (l[j].toNat : Int)) := by
  induction l with
  | nil => intro w off j h; simp at h
  | cons x r ih =>
    intro w off j h hc
    rw [setBytes]
    rcases j with _ | j
    · rw [setBytes_other _ _ _ _ _ (.inr (.inl (by simp)))]
      obtain ⟨u, hu⟩ := hc 0 (by simp)
      exact World.cell?_setCell_same _ _ _ hu
    · have := ih (w.setCell ⟨g, off, none⟩ (.int .u8 x.toNat)) (off + 1) j (by simpa using h) (fun i hi => by
        obtain ⟨u, hu⟩ := hc (i + 1) (by simpa using hi)
        rw [World.cell?_setCell_other _ _ _ _ (by intro e; injection e; omega)]
        exact ⟨u, by rw [← hu, show off + 1 + i = off + (i + 1) by omega]⟩)
      rw [show off + (j + 1) = off + 1 + j by omega, this]
      rfl

/-- 'string(b)' of bytes that are known. -/
theorem run_conv_bs {P : Program} (src dst e : TypeId) (hs : P.underlying src = some (.slice e)) (he : P.underlying e = some (.int .u8)) (hd : P.underlying dst = some .string) (w : World)
    (g off cap : Nat) (l : List UInt8) (n : Nat) (hn : l.length = n) (hc : ∀ j (hj : j < l.length), w.cell? ⟨g, off + j, none⟩ = some (.int .u8 (l[j].toNat : Int))) :
    (convert src dst (.slice (some ⟨g, off, none⟩) n cap)).run P w = .ok (.string (bs l)) w := by
  subst hn
  refine run_convert_bytes_back w src dst e ⟨g, off, none⟩ cap l hs he hd (fun j hj => ?_)
  have : (⟨g, off, none⟩ : Addr).add j = ⟨g, off + j, none⟩ := by unfold Addr.add; split <;> simp_all
  rw [this]; exact hc j hj

/-- '[]byte(s)' of a string: a new block whose first cells are the bytes, none of them frozen. -/
theorem bytes_of {P : Program} (src dst e : TypeId) (hs : P.underlying src = some .string) (hd : P.underlying dst = some (.slice e)) (he : P.underlying e = some (.int .u8)) (w : World) (l : List UInt8) (hl : l.length ≤ maxLen) :
    ∃ (cap : Nat) (w1 : World), (convert src dst (.string (bs l))).run P w = .ok (.slice (some ⟨w.heap.size, 0, none⟩) l.length cap) w1 ∧ l.length ≤ cap ∧ cap ≤ maxLen ∧ Below w.heap.size w w1 ∧ w1.heap.size = w.heap.size + 1 ∧
      (∀ j (hj : j < l.length), w1.cell? ⟨w.heap.size, j, none⟩ = some (.int .u8 (l[j].toNat : Int))) ∧ (∀ j, j < l.length → w1.frozen? ⟨w.heap.size, j, none⟩ = false) := by
  have hsz : (bytesRow (bs l) (grownCap w (bs l).size 0 e)).size = l.length + (grownCap w (bs l).size 0 e - (bs l).size) := by simp [bytesRow, bs]
  refine ⟨grownCap w (bs l).size 0 e, _, by rw [← bs_size l]; exact run_bytes_of_string w src dst e (bs l) hs hd he, ?_, ?_, ?_, ?_, ?_, ?_⟩
  · have := grownCap_ge w (bs l).size 0 e
    rwa [bs_size] at this
  · exact grownCap_le_maxLen w _ 0 e (by rw [bs_size]; exact hl)
  · exact ((Below.refl _ _).drew).alloc (Nat.le_refl _) _
  · show (w.heap.push _).size = _
    simp
  · intro j hj
    refine (World.cell?_alloc_mark w.drew _ e _ j).trans ?_
    refine (bytesRow_at (bs l) _ j (by simpa [bs] using hj)).trans ?_
    simp [bs]
  · intro j hj
    refine (World.frozen?_alloc_mark w.drew _ e _ _ j).trans ?_
    rw [hsz]
    simp; omega

/-- 's[:min(len(s), N)]': what is left. -/
theorem cut_at (N : Nat) (l : List UInt8) : ∃ t : List UInt8, t.length ≤ N ∧ t.length ≤ l.length ∧ ((t = l ∧ ((t.length : Nat) : Int) ≤ N) ∨ (List.take N l = t ∧ (N : Int) < l.length)) := by
  by_cases h5 : N < l.length
  · exact ⟨l.take N, by simp; omega, by simp; omega, .inr ⟨rfl, by omega⟩⟩
  · exact ⟨l, by omega, by omega, .inl ⟨rfl, by omega⟩⟩

theorem below_of_drew {B : Nat} {w w' : World} (h : Below B w.drew w') : Below B w w' := ⟨h.os, h.tape, h.output, h.size, h.block⟩
theorem below_of_drewN {B n : Nat} {w w' : World} (h : Below B (w.drewN n) w') : Below B w w' := ⟨h.os, h.tape, h.output, h.size, h.block⟩
theorem below_drewN {B : Nat} {a w : World} (h : Below B a w) (n : Nat) : Below B a (w.drewN n) := ⟨h.os, h.tape, h.output, h.size, h.block⟩
theorem bcell {W w1 : World} (hb : Below W.heap.size W w1) : (∀ b o, b < W.heap.size → w1.cell? ⟨b, o, none⟩ = W.cell? ⟨b, o, none⟩) ∧ (∀ b o, b < W.heap.size → w1.frozen? ⟨b, o, none⟩ = W.frozen? ⟨b, o, none⟩) :=
  ⟨fun b o h => hb.cell (p := ⟨b, o, none⟩) h, fun b o h => hb.frozen (p := ⟨b, o, none⟩) h⟩

theorem quiet_add {P : Program} {f : FuncId} {args : Array Value} {w : World} {a n : Nat} {v : Value}
    (h : Calls P f args (w.drewN (a + n)) fun e w' => e = .returned v ∧ ∃ m, w' = (w.drewN (a + n)).drewN m) :
    Calls P f args (w.drewN (a + n)) fun e w'' => e = .returned v ∧ ∃ m, w'' = w.drewN (a + m) :=
  h.mono fun _ _ ⟨he, m, hm⟩ => ⟨he, n + m, by rw [hm, World.drewN_drewN, Nat.add_assoc]⟩
theorem quiet_add_same {P : Program} {f : FuncId} {args : Array Value} {w : World} {a n : Nat} {v : Value}
    (h : Calls P f args (w.drewN (a + n)) fun e w' => e = .returned v ∧ w' = w.drewN (a + n)) :
    Calls P f args (w.drewN (a + n)) fun e w'' => e = .returned v ∧ ∃ m, w'' = w.drewN (a + m) :=
  h.mono fun _ _ ⟨he, hm⟩ => ⟨he, n, hm⟩
theorem quiet_add_left {P : Program} {f : FuncId} {args : Array Value} {w : World} {a n : Nat} {v : Value}
    (h : Calls P f args (w.drewN (a + n)) fun e w' => e = .returned v ∧ w.drewN (a + n) = w') :
    Calls P f args (w.drewN (a + n)) fun e w'' => e = .returned v ∧ ∃ m, w'' = w.drewN (a + m) :=
  h.mono fun _ _ ⟨he, hm⟩ => ⟨he, n, hm.symm⟩
theorem quiet_left {P : Program} {f : FuncId} {args : Array Value} {w : World} {n : Nat} {v : Value}
    (h : Calls P f args (w.drewN n) fun e w' => e = .returned v ∧ w.drewN n = w') : Calls P f args (w.drewN n) fun e w'' => e = .returned v ∧ ∃ m, w'' = w.drewN m :=
  h.mono fun _ _ ⟨he, hm⟩ => ⟨he, n, hm.symm⟩
end Go.Proofs.Ytdljpnebpoaeiaa
