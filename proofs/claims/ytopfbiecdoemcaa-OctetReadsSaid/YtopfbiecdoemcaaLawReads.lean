/-
  OctetReads: whatever is asked of a reader of any bytes, it answers what the document says. No condition.
-/
import Derived.Test.YtopfbiecdoemcaaPlaces
import Derived.Test.YtopfbiecdoemcaaOctWorks
import Derived.Test.YtopfbiecdoemcaaOctRd
import Derived.Test.YtopfbiecdoemcaaOctRef3
import Derived.Deep.RegionHeld3
import Derived.Deep.DrawnRows
import Derived.BigQuiet
namespace Go.Proofs.Ytopfbiecdoemcaa
open Go.ChangeShapes Go.WideShapes Go.ChangeAt Go.RowKit
open Go.ChangeMaps (open_string shut_string)

/-- What holds at each round's head. -/
def RdQ (w wr : World) (g q n : Nat) (i : Value) : Prop :=
  ∃ (k : Nat) (l : List UInt8), k ≤ n ∧ k ≤ 60 ∧ i = .int .i64 k ∧ l.length ≤ 5000 ∧ Rd wr g l ∧ Blk wr q 41 #[.string (bs l)] ∧ g ≠ q ∧ w.heap.size ≤ g ∧ w.heap.size ≤ q ∧ Below w.heap.size w wr

theorem quiet_eq {P : Program} {f : FuncId} {args : Array Value} {w : World} {n : Nat} {v : Value}
    (h : Calls P f args (w.drewN n) fun e w' => e = .returned v ∧ w.drewN n = w') : Calls P f args (w.drewN n) fun e w'' => e = .returned v ∧ ∃ m, w'' = w.drewN m :=
  h.mono fun _ _ ⟨he, hm⟩ => ⟨he, n, hm.symm⟩
theorem below_grown {B : Nat} {w0 w w' : World} {g : Nat} (hb : Below B w0 w) (h : w.grownBy w' (some g)) (hg : B ≤ g) (hB : B ≤ w.heap.size) : Below B w0 w' :=
  hb.trans ⟨h.os, h.tape, h.output, h.size, fun k hk => h.block k (by omega) (fun e => by injection e; omega)⟩
theorem blk_grown {w w' : World} {g q : Nat} {t : TypeId} {cs : Array Value} (h : Blk w q t cs) (hg : w.grownBy w' (some g)) (hne : g ≠ q) : Blk w' q t cs :=
  h.grown hg (fun e => hne (by injection e with e; exact e.symm))
attribute [local go_sem ↓] Go.wp_at_zero Go.wp_at_succ

set_option maxRecDepth 100000 in
set_option maxHeartbeats 4000000 in
theorem reads_walk (l : List UInt8) (A : Option Addr) (n cap : Nat) (at_ wd_ : Nat → Int) (vv : Nat → Nat) (w : World) (_hl : l.length ≤ 9223372036854775807) (_hn : n ≤ cap) (_hcap : cap ≤ 9223372036854775807) (hp : Plc w A n at_ wd_ vv)
    (hbd : ∀ i, i < n → (-9223372036854775808 ≤ at_ i ∧ at_ i ≤ 9223372036854775807) ∧ (-9223372036854775808 ≤ wd_ i ∧ wd_ i ≤ 9223372036854775807) ∧ vv i < 4294967296) :
    Calls Try.prog 7 #[.string (bs l), .slice A n cap] w fun e w' => e = .returned (.bool true) ∧ Below w.heap.size w w' := by
  obtain ⟨t, ht, htl, hmin, htk⟩ := cut_one 5000 5000 rfl l
  have HP := hide hp
  have HBD := hide hbd
  clear hp hbd
  go_enter Try.func7, Try.ntmps7
  go_wp2_with fail
  refine (new_any t w (by omega)).mono ?_
  rintro e w1 ⟨g, rfl, hg, hrd, hb1⟩
  have HRD := hide hrd
  have HB1 := hide hb1
  clear hrd hb1
  go_wp2_with fail
  clear hmin htk
  go_loopw [7] (fun i wr => RdQ w wr g w1.heap.size n i) (fun i _ => 60 - (intOf i).toNat)
  case atStart =>
    refine ⟨0, t, by omega, by omega, rfl, ht, HRD.out.below ((Below.refl _ _).alloc (Nat.le_refl _) _) (Nat.le_refl _), Blk.new w1 _ _, by have := HRD.out.lt; omega, hg, HB1.out.size, HB1.out.alloc HB1.out.size _⟩
  case round =>
    obtain ⟨k, x, hk, hk60, rfl, hx, hrd, hq, hgq, hgB, hqB, hb⟩ := hrel
    by_cases hlt : k < n ∧ k < 60
    · obtain ⟨hlt, hlt2⟩ := hlt
      obtain ⟨gl, off, hA, hgl, hcs⟩ : ∃ gl off, A = some ⟨gl, off, none⟩ ∧ gl < w.heap.size ∧ wr.cell? ⟨gl, off + k * 3, none⟩ = some (.int .i64 (at_ k)) ∧ wr.cell? ⟨gl, off + k * 3 + 1, none⟩ = some (.int .i64 (wd_ k)) := by
        rcases HP.out with h0 | ⟨gl, off, hA, hgl, hc⟩
        · omega
        · exact ⟨gl, off, hA, hgl, (hb.cell (p := ⟨gl, off + k * 3, none⟩) hgl).trans (hc k hlt).1, (hb.cell (p := ⟨gl, off + k * 3 + 1, none⟩) hgl).trans (hc k hlt).2.1⟩
      subst hA
      obtain ⟨c0, c1⟩ := hcs
      obtain ⟨⟨ha1, ha2⟩, ⟨hw1, hw2⟩, _⟩ := HBD.out k hlt
      obtain ⟨a, ha⟩ : ∃ a, at_ k = a := ⟨_, rfl⟩
      obtain ⟨z, hz⟩ : ∃ z, wd_ k = z := ⟨_, rfl⟩
      rw [ha] at c0 ha1 ha2
      rw [hz] at c1 hw1 hw2
      clear ha hz
      have cq : wr.cell? ⟨w1.heap.size, 0, none⟩ = some (.string (bs x)) := hq.cell 0
      have HR := hide hrd
      have HQ := hide hq
      have HB := hide hb
      clear hrd hq hb
      have i1 : (k : Int) < n := by omega
      have i2 : (k : Int) < 60 := by omega
      by_cases hz0 : z = 0
      · have hz1 : (z == 0) = true := by simpa using hz0
        clear hz0
        go_wp2_with fail
        refine (take_any g x a wr HR.out).mono ?_
        rintro e w2 ⟨rfl, hr2, hg2⟩
        have f0 := hg2.cell c0 (by show some gl ≠ some g; intro e; injection e; omega)
        have f1 := hg2.cell c1 (by show some gl ≠ some g; intro e; injection e; omega)
        have fq := hg2.cell cq (by show some w1.heap.size ≠ some g; intro e; injection e; omega)
        have HR2 := hide hr2
        have HQ2 := hide (blk_grown HQ.out hg2 hgq)
        have HB2 := hide (below_grown HB.out hg2 hgB (Nat.le_trans (Nat.le_refl _) HB.out.size))
        have hs2 : w1.heap.size < w2.heap.size := HQ2.out.lt
        have ff : w2.frozen? ⟨w1.heap.size, 0, none⟩ = false := HQ2.out.frozen 0
        have hs0 : gl < w2.heap.size := by have := HB2.out.size; omega
        clear hr2 hg2 c0 c1 cq
        obtain ⟨tk, htk⟩ : ∃ y, tkT x a = y := ⟨_, rfl⟩
        obtain ⟨dr, hdr⟩ : ∃ y, drT x a = y := ⟨_, rfl⟩
        obtain ⟨ok, hok⟩ : ∃ y, okT x a = y := ⟨_, rfl⟩
        have hdl : dr.length ≤ 5000 := by rw [← hdr]; exact Nat.le_trans (drT_len x a) hx
        rw [htk, hok]
        rw [hdr] at HR2
        have HRT : Hid (∀ W, Calls Try.prog 19 #[.agg #[.string (bs x)], .int .i64 a] W fun e w' => e = .returned (.tuple #[.agg #[.string (bs dr)], .string (bs tk), .bool ok]) ∧ Below W.heap.size W w') := fun W => by
          have := rtake_any x a W (by omega)
          rwa [htk, hok, hdr] at this
        clear htk hdr hok
        go_wp2_with fail
        have KK : Hid (∀ W, Below w2.heap.size w2 W → W.cell? ⟨gl, off + k * 3, none⟩ = some (.int .i64 a) ∧ W.cell? ⟨w1.heap.size, 0, none⟩ = some (.string (bs x))) := fun W hW => ⟨(hW.cell (p := ⟨gl, off + k * 3, none⟩) hs0).trans f0, (hW.cell (p := ⟨w1.heap.size, 0, none⟩) hs2).trans fq⟩
        go_region_held3 (fun w' => w'.cell? ⟨gl, off + k * 3, none⟩ = some (.int .i64 a) ∧ w'.cell? ⟨w1.heap.size, 0, none⟩ = some (.string (bs x))) ((refine KK.out _ ?_; repeat (first | exact Below.refl _ _ | refine Below.drew ?_ | refine below_drewN ?_ _ | refine Below.alloc ?_ (by first | omega | (simp; done) | (simp; omega)) _ | refine Below.setCell ?_ (by first | omega | (simp; done) | (simp; omega)) _ | refine Below.trans ?_ (hb3.mono (by first | omega | (simp; done) | (simp; omega))))))
          ((go_at_call 19; refine (HRT.out _).mono ?_; rintro e w3 ⟨rfl, hb3⟩; obtain ⟨hc3, hf3⟩ := bcell hb3; have hb3' : Below w2.heap.size w2 w3 := Below.trans (by first | exact (Below.refl _ _).drew | exact ((Below.refl _ _).drew).alloc (Nat.le_refl _) _ | exact Below.refl _ _) (hb3.mono (by first | exact Nat.le_refl _ | simp)); have hz3 : w2.heap.size ≤ w3.heap.size := Nat.le_trans (by first | exact Nat.le_refl _ | simp) hb3.size))
        all_goals
          have HR3 : Hid (Rd w3 g dr) := HR2.out.below hb3' (Nat.le_refl _)
          have HQ3 := hide (HQ2.out.below hb3' hs2)
          have HB3 := hide (HB2.out.trans (hb3'.mono HB2.out.size))
          clear hb3'
          have hs3 : w1.heap.size < w3.heap.size := by omega
          have hgq' : g < w1.heap.size := HRD.out.lt
          have ff3 := (HQ3.out.alloc (Obj.cells #[Value.string (bs dr)] 41)).frozen 0
          have hB3 : w.heap.size ≤ w3.heap.size := HB3.out.size
          have hB2 : w.heap.size ≤ w2.heap.size := HB2.out.size
          have HQ4 : Blk (w3.setCell ⟨w1.heap.size, 0, none⟩ (.string (bs dr))) w1.heap.size 41 #[.string (bs dr)] := HQ3.out.set_ 0 _
          have HQ5 : Blk ((w3.setCell ⟨w2.heap.size, 0, none⟩ (.string (bs dr))).setCell ⟨w1.heap.size, 0, none⟩ (.string (bs dr))) w1.heap.size 41 #[.string (bs dr)] := (HQ3.out.far (p := ⟨w2.heap.size, 0, none⟩) (show w1.heap.size ≠ w2.heap.size by omega) _).set_ 0 _
          have fc4 : ((w3.setCell ⟨w1.heap.size, 0, none⟩ (.string (bs dr))).alloc (Obj.cells #[Value.string (bs dr)] 41)).cell? ⟨w1.heap.size, 0, none⟩ = some (.string (bs dr)) := (HQ4.alloc _).cell 0
          have fc5 : ((w3.setCell ⟨w2.heap.size, 0, none⟩ (.string (bs dr))).setCell ⟨w1.heap.size, 0, none⟩ (.string (bs dr))).cell? ⟨w1.heap.size, 0, none⟩ = some (.string (bs dr)) := HQ5.cell 0
          have HQ4 := hide HQ4
          have HQ5 := hide HQ5
        all_goals
          go_wp2
          go_quiet ((go_at_call 22; exact quiet_eq (left_any g dr _ (by repeat (first | exact HR3.out | refine Rd.drewN ?_ _ | refine Rd.drew ?_ | refine Rd.alloc ?_ _ | refine Rd.far ?_ (by omega) _)))))
          go_wp2
          go_roundw
          case rel => exact ⟨k + 1, dr, by omega, by omega, by go_num, hdl, (by repeat (first | exact HR3.out | refine Rd.drewN ?_ _ | refine Rd.drew ?_ | refine Rd.alloc ?_ _ | refine Rd.far ?_ (by omega) _)), (by first | exact (HQ4.out.alloc _).drewN _ | exact HQ5.out.drewN _), hgq, hgB, hqB, (by repeat (first | exact HB3.out | refine Below.drew ?_ | refine below_drewN ?_ _ | refine Below.alloc ?_ (by first | omega | (simp; omega)) _ | refine Below.setCell ?_ (by first | omega | (simp; omega)) _))⟩
          case measure => simp [intOf]; omega
      · have hz1 : (z == 0) = false := by simpa using hz0
        clear hz0
        go_wp2_with fail
        refine (number_any g x z wr HR.out).mono ?_
        rintro e w2 ⟨rfl, hr2, hg2⟩
        have f0 := hg2.cell c0 (by show some gl ≠ some g; intro e; injection e; omega)
        have f1 := hg2.cell c1 (by show some gl ≠ some g; intro e; injection e; omega)
        have fq := hg2.cell cq (by show some w1.heap.size ≠ some g; intro e; injection e; omega)
        have HR2 := hide hr2
        have HQ2 := hide (blk_grown HQ.out hg2 hgq)
        have HB2 := hide (below_grown HB.out hg2 hgB (Nat.le_trans (Nat.le_refl _) HB.out.size))
        have hs2 : w1.heap.size < w2.heap.size := HQ2.out.lt
        have ff : w2.frozen? ⟨w1.heap.size, 0, none⟩ = false := HQ2.out.frozen 0
        have hs0 : gl < w2.heap.size := by have := HB2.out.size; omega
        clear hr2 hg2 c0 c1 cq
        obtain ⟨tk, htk⟩ : ∃ y, gotN x 0 z = y := ⟨_, rfl⟩
        obtain ⟨dr, hdr⟩ : ∃ y, drN x z = y := ⟨_, rfl⟩
        obtain ⟨ok, hok⟩ : ∃ y, okAt x.length 0 z = y := ⟨_, rfl⟩
        have hdl : dr.length ≤ 5000 := by rw [← hdr]; exact Nat.le_trans (drN_len x z) hx
        rw [htk, hok]
        rw [hdr] at HR2
        have HRT : Hid (∀ W, Calls Try.prog 21 #[.agg #[.string (bs x)], .int .i64 z] W fun e w' => e = .returned (.tuple #[.agg #[.string (bs dr)], .int .u32 tk, .bool ok]) ∧ Below W.heap.size W w') := fun W => by
          have := rnumber_any x z W (by omega)
          rwa [htk, hok, hdr] at this
        clear htk hdr hok
        go_wp2_with fail
        have KK : Hid (∀ W, Below w2.heap.size w2 W → W.cell? ⟨gl, off + k * 3 + 1, none⟩ = some (.int .i64 z) ∧ W.cell? ⟨w1.heap.size, 0, none⟩ = some (.string (bs x))) := fun W hW => ⟨(hW.cell (p := ⟨gl, off + k * 3 + 1, none⟩) hs0).trans f1, (hW.cell (p := ⟨w1.heap.size, 0, none⟩) hs2).trans fq⟩
        go_region_held3 (fun w' => w'.cell? ⟨gl, off + k * 3 + 1, none⟩ = some (.int .i64 z) ∧ w'.cell? ⟨w1.heap.size, 0, none⟩ = some (.string (bs x))) ((refine KK.out _ ?_; repeat (first | exact Below.refl _ _ | refine Below.drew ?_ | refine below_drewN ?_ _ | refine Below.alloc ?_ (by first | omega | (simp; done) | (simp; omega)) _ | refine Below.setCell ?_ (by first | omega | (simp; done) | (simp; omega)) _ | refine Below.trans ?_ (hb3.mono (by first | omega | (simp; done) | (simp; omega))))))
          ((go_at_call 21; refine (HRT.out _).mono ?_; rintro e w3 ⟨rfl, hb3⟩; obtain ⟨hc3, hf3⟩ := bcell hb3; have hb3' : Below w2.heap.size w2 w3 := Below.trans (by first | exact (Below.refl _ _).drew | exact ((Below.refl _ _).drew).alloc (Nat.le_refl _) _ | exact Below.refl _ _) (hb3.mono (by first | exact Nat.le_refl _ | simp)); have hz3 : w2.heap.size ≤ w3.heap.size := Nat.le_trans (by first | exact Nat.le_refl _ | simp) hb3.size))
        all_goals
          have HR3 : Hid (Rd w3 g dr) := HR2.out.below hb3' (Nat.le_refl _)
          have HQ3 := hide (HQ2.out.below hb3' hs2)
          have HB3 := hide (HB2.out.trans (hb3'.mono HB2.out.size))
          clear hb3'
          have hs3 : w1.heap.size < w3.heap.size := by omega
          have hgq' : g < w1.heap.size := HRD.out.lt
          have ff3 := (HQ3.out.alloc (Obj.cells #[Value.string (bs dr)] 41)).frozen 0
          have hB3 : w.heap.size ≤ w3.heap.size := HB3.out.size
          have hB2 : w.heap.size ≤ w2.heap.size := HB2.out.size
          have HQ4 : Blk (w3.setCell ⟨w1.heap.size, 0, none⟩ (.string (bs dr))) w1.heap.size 41 #[.string (bs dr)] := HQ3.out.set_ 0 _
          have HQ5 : Blk ((w3.setCell ⟨w2.heap.size, 0, none⟩ (.string (bs dr))).setCell ⟨w1.heap.size, 0, none⟩ (.string (bs dr))) w1.heap.size 41 #[.string (bs dr)] := (HQ3.out.far (p := ⟨w2.heap.size, 0, none⟩) (show w1.heap.size ≠ w2.heap.size by omega) _).set_ 0 _
          have fc4 : ((w3.setCell ⟨w1.heap.size, 0, none⟩ (.string (bs dr))).alloc (Obj.cells #[Value.string (bs dr)] 41)).cell? ⟨w1.heap.size, 0, none⟩ = some (.string (bs dr)) := (HQ4.alloc _).cell 0
          have fc5 : ((w3.setCell ⟨w2.heap.size, 0, none⟩ (.string (bs dr))).setCell ⟨w1.heap.size, 0, none⟩ (.string (bs dr))).cell? ⟨w1.heap.size, 0, none⟩ = some (.string (bs dr)) := HQ5.cell 0
          have HQ4 := hide HQ4
          have HQ5 := hide HQ5
        all_goals
          go_wp2
          go_quiet ((go_at_call 22; exact quiet_eq (left_any g dr _ (by repeat (first | exact HR3.out | refine Rd.drewN ?_ _ | refine Rd.drew ?_ | refine Rd.alloc ?_ _ | refine Rd.far ?_ (by omega) _)))))
          go_wp2
          go_roundw
          case rel => exact ⟨k + 1, dr, by omega, by omega, by go_num, hdl, (by repeat (first | exact HR3.out | refine Rd.drewN ?_ _ | refine Rd.drew ?_ | refine Rd.alloc ?_ _ | refine Rd.far ?_ (by omega) _)), (by first | exact (HQ4.out.alloc _).drewN _ | exact HQ5.out.drewN _), hgq, hgB, hqB, (by repeat (first | exact HB3.out | refine Below.drew ?_ | refine below_drewN ?_ _ | refine Below.alloc ?_ (by first | omega | (simp; omega)) _ | refine Below.setCell ?_ (by first | omega | (simp; omega)) _))⟩
          case measure => simp [intOf]; omega
    · have HB := hide hb
      clear hrd hq hb
      by_cases h1 : (k : Int) < n
      · have h2 : decide ((k : Int) < 60) = false := by simp; omega
        go_wp2_with fail
        refine (works_any _).mono ?_
        rintro e w4 ⟨rfl, hb4⟩
        have HB4 := hide hb4; clear hb4
        go_wp2
        go_ret
        exact ⟨rfl, HB.out.trans (HB4.out.mono HB.out.size)⟩
      · have h2 : decide ((k : Int) < n) = false := by simp; omega
        go_wp2_with fail
        refine (works_any _).mono ?_
        rintro e w4 ⟨rfl, hb4⟩
        have HB4 := hide hb4; clear hb4
        go_wp2
        go_ret
        exact ⟨rfl, HB.out.trans (HB4.out.mono HB.out.size)⟩
theorem reads_law : LawWalk 7 Try.f7 := by
  intro H enc W base args ds p hval hA
  rw [Try.params7] at hA hval
  obtain ⟨v0, vs0, d0, ds0, p0, q0, hargs, rfl, rfl, h0, r0⟩ := trodAll_cons hA
  obtain ⟨v1, vs1, d1, ds1, p1, q1, rfl, rfl, rfl, h1, r1⟩ := trodAll_cons r0
  obtain ⟨rfl, rfl, rfl⟩ := trodAll_nil r1
  obtain rfl : args = #[v0, v1] := by cases args; simp_all
  obtain ⟨a0, rfl, rfl, rfl, w0⟩ := open_string Try.underlying9 (hval 0 _ v0 rfl rfl) h0
  obtain ⟨l0, rfl⟩ := bs_of a0
  rw [bs_size] at w0
  obtain ⟨A, n, cap, at_, wd_, vv, rfl, hn, hc, hp, hbd⟩ := open_places (hval 1 _ v1 rfl rfl) h1
  exact reads_walk l0 A n cap at_ wd_ vv W w0 hn (by unfold maxLen at hc; omega) hp hbd
set_option maxRecDepth 100000 in
theorem octetReads_proved : Rows.OctetReadsSaid :=
  OpenClaim.holds_of_wide 7 Try.f7 rfl rfl rfl rfl rfl rfl rfl ⟨rfl, rfl, rfl, rfl, rfl⟩ rfl rfl rfl rfl rfl (by kernel_rfl) Try.func7 (by kernel_rfl)
    (of_decide_eq_true (by kernel_rfl)) (by unfold Func.isWrapper; first | (rw [if_pos (by decide +kernel)]; kernel_rfl) | (rw [if_neg (by decide +kernel)]; exact ⟨rfl, rfl⟩))
    (fun os started H enc _ => law_lifted 7 Try.f7 Rows.octetReadsSpec Rows.octetReadsRow.domain Try.func7 (by kernel_rfl) rfl rfl
      (fun H ds hd => by match ds, hd with | [d0, d1], _ => exact ⟨rfl, rfl, rfl⟩) (by decide +kernel) reads_law os started H enc
      (ChangeSpec.witness6 (enc := enc) (C := Try.checked) false ⟨#[], #[.string ByteArray.empty, .slice none 0 0], []⟩ 8 (by kernel_rfl) (by kernel_rfl) (by kernel_rfl) (by kernel_rfl)))
#print axioms octetReads_proved
end Go.Proofs.Ytopfbiecdoemcaa
