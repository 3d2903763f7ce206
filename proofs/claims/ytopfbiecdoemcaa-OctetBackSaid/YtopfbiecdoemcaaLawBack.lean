/-
  OctetBack: whatever numbers are put one behind the other are read back just so, and nothing is left but what stands behind. No condition.
-/
import Derived.Test.YtopfbiecdoemcaaPlaces
import Derived.Test.YtopfbiecdoemcaaOctWorks
import Derived.Test.YtopfbiecdoemcaaOctRd
import Derived.Deep.RegionHeld3
import Derived.Deep.DrawnRows
import Derived.BigQuiet
namespace Go.Proofs.Ytopfbiecdoemcaa
open Go.ChangeShapes Go.WideShapes Go.ChangeAt Go.RowKit
open Go.ChangeMaps (open_string shut_string)

/-- The bytes of the first k numbers; those of j numbers from the k-th on. -/
def encTo (v : Nat → Nat) : Nat → List UInt8
  | 0 => []
  | k + 1 => encTo v k ++ toLE (2 ^ (v k % 3)) (v k)
def encFr (v : Nat → Nat) : Nat → Nat → List UInt8
  | _, 0 => []
  | k, j + 1 => toLE (2 ^ (v k % 3)) (v k) ++ encFr v (k + 1) j
theorem enc_join (v : Nat → Nat) : ∀ j k, encTo v k ++ encFr v k j = encTo v (k + j) := by
  intro j
  induction j with
  | zero => intro k; simp [encFr]
  | succ j ih =>
    intro k
    have := ih (k + 1)
    rw [encFr, ← List.append_assoc, show encTo v k ++ toLE (2 ^ (v k % 3)) (v k) = encTo v (k + 1) from rfl, this, show k + 1 + j = k + (j + 1) by omega]
theorem enc_len (v : Nat → Nat) : ∀ k, (encTo v k).length ≤ 4 * k := by
  intro k
  induction k with
  | zero => simp [encTo]
  | succ k ih =>
    rw [encTo, List.length_append, toLE_length]
    have : v k % 3 = 0 ∨ v k % 3 = 1 ∨ v k % 3 = 2 := by omega
    rcases this with h | h | h <;> rw [h] <;> omega
def BkA (w wr : World) (m : Nat) (vv : Nat → Nat) (s i : Value) : Prop :=
  ∃ k : Nat, k ≤ m ∧ i = .int .i64 k ∧ s = .string (bs (encTo vv k)) ∧ Below w.heap.size w wr
def BkB (w wr : World) (m : Nat) (vv : Nat → Nat) (g : Nat) (t : List UInt8) (i : Value) : Prop :=
  ∃ k : Nat, k ≤ m ∧ i = .int .i64 k ∧ Rd wr g (encFr vv k (m - k) ++ t) ∧ Below w.heap.size w wr
theorem put_is (x y : List UInt8) (K : Int) (v : Nat) (w : World) (hv : v < 4294967296) (hs : x.length ≤ 9223372036854770000) (h : putN x K v = y) :
    Calls Try.prog 10 #[.string (bs x), .int .i64 K, .int .u32 v] w fun e w' => e = .returned (.string (bs y)) ∧ Below w.heap.size w w' := by
  rw [← h]; exact put_any x K v w hv hs
theorem number_is (g : Nat) (x y : List UInt8) (K : Nat) (v : Nat) (z : Int) (w : World) (h : Rd w g (toLE K v ++ y)) (hK : K = 1 ∨ K = 2 ∨ K = 4) (hz : ((v % 256 ^ K : Nat) : Int) = z) (hx : x = toLE K v ++ y) :
    Calls Try.prog 20 #[.pointer (some ⟨g, 0, none⟩), .int .i64 K] w fun e w' => e = .returned (.tuple #[.int .u32 z, .bool true]) ∧ Rd w' g y ∧ w.grownBy w' (some g) := by
  have hok : okAt (toLE K v ++ y).length 0 K = true := by
    refine okAt_mk ?_ (by omega) ?_
    · rcases hK with rfl | rfl | rfl <;> rfl
    · rw [List.length_append, toLE_length]; omega
  have := number_any g _ K w h
  rw [hok] at this
  have e1 : gotN (toLE K v ++ y) 0 K = v % 256 ^ K := by
    unfold gotN
    rw [if_pos hok]
    have : (((toLE K v ++ y).drop (0 : Int).toNat).take (K : Int).toNat) = toLE K v := by
      have h2 := List.take_left (l₁ := toLE K v) (l₂ := y)
      rw [toLE_length] at h2
      simpa using h2
    rw [this, le_toLE]
  have e2 : drN (toLE K v ++ y) K = y := by
    unfold drN
    rw [if_pos hok]
    have h2 := List.drop_left (l₁ := toLE K v) (l₂ := y)
    rw [toLE_length] at h2
    simpa using h2
  rw [e1, e2, hz] at this
  exact this
theorem take_is (g : Nat) (t : List UInt8) (w : World) (h : Rd w g t) :
    Calls Try.prog 18 #[.pointer (some ⟨g, 0, none⟩), .int .i64 t.length] w fun e w' => e = .returned (.tuple #[.string (bs t), .bool true]) ∧ Rd w' g [] ∧ w.grownBy w' (some g) := by
  have := take_yes g t t.length w h (Nat.le_refl _)
  rwa [List.take_length, List.drop_length] at this
theorem below_grown' {B : Nat} {w0 w w' : World} {g : Nat} (hb : Below B w0 w) (h : w.grownBy w' (some g)) (hg : B ≤ g) (hB : B ≤ w.heap.size) : Below B w0 w' :=
  hb.trans ⟨h.os, h.tape, h.output, h.size, fun k hk => h.block k (by omega) (fun e => by injection e; omega)⟩
theorem min_60 (n : Nat) : ∃ m : Nat, m ≤ 60 ∧ m ≤ n ∧ (if (60 : Int) < (n : Int) then 60 else (n : Int)) = (m : Int) := by
  by_cases h : (60 : Int) < n
  · exact ⟨60, by omega, by omega, by rw [if_pos h]; rfl⟩
  · exact ⟨n, by omega, by omega, by rw [if_neg h]⟩
attribute [local go_sem ↓] Go.wp_at_zero Go.wp_at_succ

set_option maxRecDepth 100000 in
set_option maxHeartbeats 4000000 in
theorem back_walk (A : Option Addr) (n cap : Nat) (l : List UInt8) (at_ wd_ : Nat → Int) (vv : Nat → Nat) (w : World) (hp : Plc w A n at_ wd_ vv)
    (hbd : ∀ i, i < n → (-9223372036854775808 ≤ at_ i ∧ at_ i ≤ 9223372036854775807) ∧ (-9223372036854775808 ≤ wd_ i ∧ wd_ i ≤ 9223372036854775807) ∧ vv i < 4294967296) :
    Calls Try.prog 8 #[.slice A n cap, .string (bs l)] w fun e w' => e = .returned (.bool true) ∧ Below w.heap.size w w' := by
  obtain ⟨t, ht, htl, hmin, htk⟩ := cut_one 1000 1000 rfl l
  obtain ⟨m, hm, hmn, hmin2⟩ := min_60 n
  have HP := hide hp
  have HBD := hide hbd
  clear hp hbd
  go_enter Try.func8, Try.ntmps8
  go_wp2_with fail
  clear hmin htk hmin2
  go_loopw [5, 7] (fun s i wr => BkA w wr m vv s i) (fun _ i _ => m - (intOf i).toNat)
  case atStart => exact ⟨0, by omega, rfl, rfl, Below.refl _ _⟩
  case round =>
    obtain ⟨k, hk, rfl, rfl, hb⟩ := hrel
    have hel := enc_len vv k
    by_cases hlt : k < m
    · obtain ⟨gl, off, hA, hgl, c2⟩ : ∃ gl off, A = some ⟨gl, off, none⟩ ∧ gl < w.heap.size ∧ wr.cell? ⟨gl, off + k * 3 + 2, none⟩ = some (.int .u32 (vv k)) := by
        rcases HP.out with h0 | ⟨gl, off, hA, hgl, hc⟩
        · omega
        · exact ⟨gl, off, hA, hgl, (hb.cell (p := ⟨gl, off + k * 3 + 2, none⟩) hgl).trans (hc k (by omega)).2.2⟩
      subst hA
      have hv := (HBD.out k (by omega)).2.2
      have HE : Hid (encTo vv (k + 1) = encTo vv k ++ toLE (2 ^ (vv k % 3)) (vv k)) := rfl
      obtain ⟨v, hve⟩ : ∃ v, vv k = v := ⟨_, rfl⟩
      obtain ⟨x, hxe⟩ : ∃ x, encTo vv k = x := ⟨_, rfl⟩
      rw [hve] at c2 hv
      rw [hve, hxe] at HE
      rw [hxe] at hel ⊢
      have HB := hide hb
      have hs0 : gl < wr.heap.size := by have := hb.size; omega
      clear hb hve hxe
      have i1 : (k : Int) < m := by omega
      have i2 : (k : Int) < n := by omega
      have hc3 : v % 3 = 0 ∨ v % 3 = 1 ∨ v % 3 = 2 := by omega
      rcases hc3 with h3 | h3 | h3
      · have h3i : (v : Int) % 3 = 0 := by omega
        have h3t : (v : Int).tmod 3 = 0 := by rw [Int.tmod_eq_emod_of_nonneg (by omega)]; omega
        rw [h3] at HE
        obtain ⟨y, hy⟩ : ∃ y, x ++ toLE 1 v = y := ⟨_, rfl⟩
        have HY : Hid (y = encTo vv (k + 1)) := by show y = _; rw [HE.out, ← hy]
        have HPUT : Hid (∀ W, Calls Try.prog 10 #[.string (bs x), .int .i64 1, .int .u32 v] W fun e w' => e = .returned (.string (bs y)) ∧ Below W.heap.size W w') := fun W => put_is x y 1 v W hv (by omega) (by rw [← hy]; rfl)
        clear hy h3 HE
        go_wp2_with fail
        go_region_held3 (fun w' => w'.cell? ⟨gl, off + k * 3 + 2, none⟩ = some (.int .u32 v)) (first | go_keep | exact (hb3.cell (p := ⟨gl, off + k * 3 + 2, none⟩) hs0).trans c2)
          ((go_at_call 10; refine (HPUT.out _).mono ?_; rintro e w3 ⟨rfl, hb3⟩))
        all_goals
          have HB3 := hide hb3
          clear hb3
          go_wp2
          go_roundw
          case rel => exact ⟨k + 1, by omega, by go_num, by rw [HY.out], HB.out.trans ((below_of_drew HB3.out).mono HB.out.size)⟩
          case measure => simp [intOf]; omega
      · have h3i : (v : Int) % 3 = 1 := by omega
        have h3t : (v : Int).tmod 3 = 1 := by rw [Int.tmod_eq_emod_of_nonneg (by omega)]; omega
        rw [h3] at HE
        obtain ⟨y, hy⟩ : ∃ y, x ++ toLE 2 v = y := ⟨_, rfl⟩
        have HY : Hid (y = encTo vv (k + 1)) := by show y = _; rw [HE.out, ← hy]
        have HPUT : Hid (∀ W, Calls Try.prog 10 #[.string (bs x), .int .i64 2, .int .u32 v] W fun e w' => e = .returned (.string (bs y)) ∧ Below W.heap.size W w') := fun W => put_is x y 2 v W hv (by omega) (by rw [← hy]; rfl)
        clear hy h3 HE
        go_wp2_with fail
        go_region_held3 (fun w' => w'.cell? ⟨gl, off + k * 3 + 2, none⟩ = some (.int .u32 v)) (first | go_keep | exact (hb3.cell (p := ⟨gl, off + k * 3 + 2, none⟩) hs0).trans c2)
          ((go_at_call 10; refine (HPUT.out _).mono ?_; rintro e w3 ⟨rfl, hb3⟩))
        all_goals
          have HB3 := hide hb3
          clear hb3
          go_wp2
          go_roundw
          case rel => exact ⟨k + 1, by omega, by go_num, by rw [HY.out], HB.out.trans ((below_of_drew HB3.out).mono HB.out.size)⟩
          case measure => simp [intOf]; omega
      · have h3i : (v : Int) % 3 = 2 := by omega
        have h3t : (v : Int).tmod 3 = 2 := by rw [Int.tmod_eq_emod_of_nonneg (by omega)]; omega
        rw [h3] at HE
        obtain ⟨y, hy⟩ : ∃ y, x ++ toLE 4 v = y := ⟨_, rfl⟩
        have HY : Hid (y = encTo vv (k + 1)) := by show y = _; rw [HE.out, ← hy]
        have HPUT : Hid (∀ W, Calls Try.prog 10 #[.string (bs x), .int .i64 4, .int .u32 v] W fun e w' => e = .returned (.string (bs y)) ∧ Below W.heap.size W w') := fun W => put_is x y 4 v W hv (by omega) (by rw [← hy]; rfl)
        clear hy h3 HE
        go_wp2_with fail
        go_region_held3 (fun w' => w'.cell? ⟨gl, off + k * 3 + 2, none⟩ = some (.int .u32 v)) (first | go_keep | exact (hb3.cell (p := ⟨gl, off + k * 3 + 2, none⟩) hs0).trans c2)
          ((go_at_call 10; refine (HPUT.out _).mono ?_; rintro e w3 ⟨rfl, hb3⟩))
        all_goals
          have HB3 := hide hb3
          clear hb3
          go_wp2
          go_roundw
          case rel => exact ⟨k + 1, by omega, by go_num, by rw [HY.out], HB.out.trans ((below_of_drew HB3.out).mono HB.out.size)⟩
          case measure => simp [intOf]; omega
    · obtain rfl : k = m := by omega
      have HF : Hid (encFr vv 0 (k - 0) = encTo vv k) := by
        show _ = _
        have := enc_join vv k 0
        rw [Nat.zero_add] at this
        rw [Nat.sub_zero, ← this]; rfl
      obtain ⟨x, hxe⟩ : ∃ x, encTo vv k = x := ⟨_, rfl⟩
      rw [hxe] at hel HF ⊢
      have HB := hide hb
      clear hb hxe
      have hcat : ¬ (9223372036854775807 < x.length + t.length) := by omega
      go_wp2_with fail
      refine (new_any (x ++ t) wr (by rw [List.length_append]; omega)).mono ?_
      rintro e w1 ⟨g, rfl, hg, hrd, hb1⟩
      have HB1 := hide (HB.out.trans (hb1.mono HB.out.size))
      have hwg : w.heap.size ≤ g := Nat.le_trans HB.out.size hg
      have HX : Hid (Rd w1 g (encFr vv 0 (k - 0) ++ t)) := by show Rd _ _ _; rw [HF.out]; exact hrd
      clear hrd hb1 hcat
      go_wp2_with fail
      go_loopw [9] (fun i wq => BkB w wq k vv g t i) (fun i _ => k - (intOf i).toNat)
      case atStart => exact ⟨0, by omega, rfl, HX.out, HB1.out⟩
      case round =>
        obtain ⟨j, hj, rfl, hrd, hb⟩ := hrel
        by_cases hlt2 : j < k
        · obtain ⟨gl, off, hA, hgl, c2⟩ : ∃ gl off, A = some ⟨gl, off, none⟩ ∧ gl < w.heap.size ∧ wr.cell? ⟨gl, off + j * 3 + 2, none⟩ = some (.int .u32 (vv j)) := by
            rcases HP.out with h0 | ⟨gl, off, hA, hgl, hc⟩
            · omega
            · exact ⟨gl, off, hA, hgl, (hb.cell (p := ⟨gl, off + j * 3 + 2, none⟩) hgl).trans (hc j (by omega)).2.2⟩
          subst hA
          have hv := (HBD.out j (by omega)).2.2
          have hE : encFr vv j (k - j) = toLE (2 ^ (vv j % 3)) (vv j) ++ encFr vv (j + 1) (k - (j + 1)) := by
            rw [show k - j = (k - (j + 1)) + 1 by omega]; rfl
          rw [hE, List.append_assoc] at hrd
          obtain ⟨y, hy⟩ : ∃ y, encFr vv (j + 1) (k - (j + 1)) ++ t = y := ⟨_, rfl⟩
          rw [hy] at hrd
          have HY := hide hy
          obtain ⟨v, hve⟩ : ∃ v, vv j = v := ⟨_, rfl⟩
          rw [hve] at c2 hv hrd
          have HB := hide hb
          have HR := hide hrd
          have hs0 : w.heap.size ≤ wr.heap.size := hb.size
          clear hb hve hrd hy hE
          have i1 : (j : Int) < k := by omega
          have i2 : (j : Int) < n := by omega
          have hc3 : v % 3 = 0 ∨ v % 3 = 1 ∨ v % 3 = 2 := by omega
          rcases hc3 with h3 | h3 | h3
          · have h3i : (v : Int) % 3 = 0 := by omega
            have HNUM : Hid (Calls Try.prog 20 #[.pointer (some ⟨g, 0, none⟩), .int .i64 1] wr fun e w' => e = .returned (.tuple #[.int .u32 ((v:Int)%256), .bool true]) ∧ Rd w' g y ∧ wr.grownBy w' (some g)) :=
              number_is g _ y 1 v ((v:Int)%256) wr (by rw [h3] at HR; exact HR.out) (by omega) (by show ((v % 256 : Nat) : Int) = _; omega) rfl
            clear h3
            go_wp2_with fail
            refine HNUM.out.mono ?_
            rintro e w2 ⟨rfl, hr2, hg2⟩
            have f2 := hg2.cell c2 (by show some gl ≠ some g; intro e; injection e; omega)
            have HR2 := hide hr2
            have HB2 := hide (below_grown' HB.out hg2 hwg hs0)
            clear hr2 hg2 c2
            go_wp2
            go_roundw
            case rel => exact ⟨j + 1, by omega, by go_num, by rw [HY.out]; exact HR2.out, HB2.out⟩
            case measure => simp [intOf]; omega
          · have h3i : (v : Int) % 3 = 1 := by omega
            have HNUM : Hid (Calls Try.prog 20 #[.pointer (some ⟨g, 0, none⟩), .int .i64 2] wr fun e w' => e = .returned (.tuple #[.int .u32 ((v:Int)%65536), .bool true]) ∧ Rd w' g y ∧ wr.grownBy w' (some g)) :=
              number_is g _ y 2 v ((v:Int)%65536) wr (by rw [h3] at HR; exact HR.out) (by omega) (by show ((v % 65536 : Nat) : Int) = _; omega) rfl
            clear h3
            go_wp2_with fail
            refine HNUM.out.mono ?_
            rintro e w2 ⟨rfl, hr2, hg2⟩
            have f2 := hg2.cell c2 (by show some gl ≠ some g; intro e; injection e; omega)
            have HR2 := hide hr2
            have HB2 := hide (below_grown' HB.out hg2 hwg hs0)
            clear hr2 hg2 c2
            go_wp2
            go_roundw
            case rel => exact ⟨j + 1, by omega, by go_num, by rw [HY.out]; exact HR2.out, HB2.out⟩
            case measure => simp [intOf]; omega
          · have h3i : (v : Int) % 3 = 2 := by omega
            have HNUM : Hid (Calls Try.prog 20 #[.pointer (some ⟨g, 0, none⟩), .int .i64 4] wr fun e w' => e = .returned (.tuple #[.int .u32 (v:Int), .bool true]) ∧ Rd w' g y ∧ wr.grownBy w' (some g)) :=
              number_is g _ y 4 v (v:Int) wr (by rw [h3] at HR; exact HR.out) (by omega) (by show ((v % 4294967296 : Nat) : Int) = _; omega) rfl
            clear h3
            go_wp2_with fail
            refine HNUM.out.mono ?_
            rintro e w2 ⟨rfl, hr2, hg2⟩
            have f2 := hg2.cell c2 (by show some gl ≠ some g; intro e; injection e; omega)
            have HR2 := hide hr2
            have HB2 := hide (below_grown' HB.out hg2 hwg hs0)
            clear hr2 hg2 c2
            go_wp2
            go_roundw
            case rel => exact ⟨j + 1, by omega, by go_num, by rw [HY.out]; exact HR2.out, HB2.out⟩
            case measure => simp [intOf]; omega
        · obtain rfl : j = k := by omega
          rw [Nat.sub_self] at hrd
          have HR : Hid (Rd wr g t) := hrd
          have HB := hide hb
          have hs0 : w.heap.size ≤ wr.heap.size := hb.size
          clear hrd hb
          go_wp2_with fail
          refine (take_is g t wr HR.out).mono ?_
          rintro e w2 ⟨rfl, hr2, hg2⟩
          have HR2 := hide hr2
          have HB2 := hide (below_grown' HB.out hg2 hwg hs0)
          clear hr2 hg2
          go_wp2_with fail
          refine (left_any g [] w2 HR2.out).mono ?_
          rintro e w3 ⟨rfl, rfl⟩
          go_wp2_with fail
          refine (works_any _).mono ?_
          rintro e w4 ⟨rfl, hb4⟩
          have HB4 := hide hb4; clear hb4
          go_wp2
          go_ret
          exact ⟨rfl, HB2.out.trans (HB4.out.mono HB2.out.size)⟩
theorem back_law : LawWalk 8 Try.f8 := by
  intro H enc W base args ds p hval hA
  rw [Try.params8] at hA hval
  obtain ⟨v0, vs0, d0, ds0, p0, q0, hargs, rfl, rfl, h0, r0⟩ := trodAll_cons hA
  obtain ⟨v1, vs1, d1, ds1, p1, q1, rfl, rfl, rfl, h1, r1⟩ := trodAll_cons r0
  obtain ⟨rfl, rfl, rfl⟩ := trodAll_nil r1
  obtain rfl : args = #[v0, v1] := by cases args; simp_all
  obtain ⟨a1, rfl, rfl, rfl, w1⟩ := open_string Try.underlying9 (hval 1 _ v1 rfl rfl) h1
  obtain ⟨l1, rfl⟩ := bs_of a1
  rw [bs_size] at w1
  obtain ⟨A, n, cap, at_, wd_, vv, rfl, hn, hc, hp, hbd⟩ := open_places (hval 0 _ v0 rfl rfl) h0
  exact back_walk A n cap l1 at_ wd_ vv W hp hbd
set_option maxRecDepth 100000 in
theorem octetBack_proved : Rows.OctetBackSaid :=
  OpenClaim.holds_of_wide 8 Try.f8 rfl rfl rfl rfl rfl rfl rfl ⟨rfl, rfl, rfl, rfl, rfl⟩ rfl rfl rfl rfl rfl (by kernel_rfl) Try.func8 (by kernel_rfl)
    (of_decide_eq_true (by kernel_rfl)) (by unfold Func.isWrapper; first | (rw [if_pos (by decide +kernel)]; kernel_rfl) | (rw [if_neg (by decide +kernel)]; exact ⟨rfl, rfl⟩))
    (fun os started H enc _ => law_lifted 8 Try.f8 Rows.octetBackSpec Rows.octetBackRow.domain Try.func8 (by kernel_rfl) rfl rfl
      (fun H ds hd => by match ds, hd with | [d0, d1], _ => exact ⟨rfl, rfl, rfl⟩) (by decide +kernel) back_law os started H enc
      (ChangeSpec.witness6 (enc := enc) (C := Try.checked) false ⟨#[], #[.slice none 0 0, .string ByteArray.empty], []⟩ 8 (by kernel_rfl) (by kernel_rfl) (by kernel_rfl) (by kernel_rfl)))
#print axioms octetBack_proved
end Go.Proofs.Ytopfbiecdoemcaa
