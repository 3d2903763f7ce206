/-
  Chapter 21: what image.Lay answers, as a contract.
-/
import Derived.Test.YtdljpnebpoaeiaaImgP
namespace Go.Proofs.Ytdljpnebpoaeiaa
open Go.RowKit
open Sy

def isLong (nc len nr ns : Nat) : Bool := decide ((nc : Int) > 4096) || (decide ((len : Int) > 16384) || (decide ((nr : Int) > 256) || (decide ((ns : Int) > 4) || false)))
def isArg (pages stack types : Int) (nc ns : Nat) : Bool := decide (pages < 16) || (decide (pages > 1024) || (decide (stack < 256) || (decide (stack > 4096) || (stack.tmod 256 != 0 || (decide (types < 0) || (decide (types > 2048) || ((nc : Int) == 0 || ((ns : Int) == 0 || false))))))))
def isFar (nc : Nat) (starts : List Nat) : Bool := (List.range starts.length).any fun i => decide (nc ≤ starts.getD i 0)
def relGood (types : Int) (nc len : Nat) (rs : List Rl) (i : Nat) : Bool := relRight types nc len 0 (r256 (4 * nc)) (rl0 rs i) (behindN rs i)
def isBad (types : Int) (nc len : Nat) (rs : List Rl) : Bool := (List.range rs.length).any fun i => !relGood types nc len rs i
def errOf (pages stack types : Int) (nc : Nat) (data : List UInt8) (rs : List Rl) (starts : List Nat) : Nat :=
  bif isLong nc data.length rs.length starts.length then 3
  else bif isArg pages stack types nc starts.length then 2
  else bif isFar nc starts then 2
  else bif layBig pages stack nc starts.length data.length then 13
  else bif isBad types nc data.length rs then 2 else 0
/-- what is answered where nothing is wrong -/
def pe (e : Nat) (x : Nat) : Int := bif Nat.beq e 0 then (x : Int) else 0
def layV (pages stack types : Int) (nc : Nat) (data : List UInt8) (rs : List Rl) (starts : List Nat) : Value :=
  .agg ⟨[.int .u32 0, .int .u32 (pe (errOf pages stack types nc data rs starts) (r256 (4 * nc))), .int .u32 (pe (errOf pages stack types nc data rs starts) (r256 (4 * nc))), .int .u32 (pe (errOf pages stack types nc data rs starts) (r256 data.length)), .int .u32 (pe (errOf pages stack types nc data rs starts) (r256 (4 * nc) + r256 data.length)), .int .u32 (pe (errOf pages stack types nc data rs starts) (stack.toNat * starts.length)), .int .u32 (pe (errOf pages stack types nc data rs starts) (layFrom stack nc starts.length data.length)), .int .u32 (pe (errOf pages stack types nc data rs starts) (pages.toNat * 256 - layFrom stack nc starts.length data.length))]⟩
def layRes (pages stack types : Int) (nc : Nat) (data : List UInt8) (rs : List Rl) (starts : List Nat) : Value := .tuple ⟨[layV pages stack types nc data rs starts, .int .i64 (errOf pages stack types nc data rs starts : Nat)]⟩
def imH (rs : List Rl) (starts : List Nat) : Sy.Heap := [(65, ⟨false, some (0, 0), rels rs, none⟩), (66, ⟨false, some (0, 0), u32s starts, none⟩)]
def imC (pages stack types : Int) (nc : Nat) (data : List UInt8) (rs : List Rl) (starts : List Nat) (v : Value) : Con := ⟨[imgV pages stack types nc rs.length starts.length data], 67, imH rs starts, [], v, 67, imH rs starts, []⟩
structure ImOk (rs : List Rl) (starts : List Nat) : Prop where
  rels : ∀ r ∈ rs, RlOk r
  nums : ∀ x ∈ starts, x < 4294967296
  len : starts.length < 9000000000000000000
theorem first_of (p : Nat → Bool) : ∀ n, (List.range n).any p = true → ∃ j, j < n ∧ p j = true ∧ ∀ i, i < j → p i = false
  | 0, h => by simp at h
  | n + 1, h => by
    by_cases h1 : (List.range n).any p = true
    · obtain ⟨j, h2, h3, h4⟩ := first_of p n h1
      exact ⟨j, by omega, h3, h4⟩
    · rw [List.range_succ, List.any_append] at h
      simp only [h1, Bool.false_or, List.any_cons, List.any_nil, Bool.or_false] at h
      refine ⟨n, by omega, h, fun i hi => ?_⟩
      simp only [Bool.not_eq_true, List.any_eq_false, List.mem_range] at h1
      simpa using h1 i hi
theorem none_of {p : Nat → Bool} {n : Nat} (h : (List.range n).any p = false) : ∀ i, i < n → p i = false := by
  intro i hi
  simp only [List.any_eq_false, List.mem_range] at h
  simpa using h i hi
theorem u32s_flat' (xs : List Nat) : ∀ v ∈ u32s xs, flat0 v = true := u32s_flat xs
theorem imWf (pages stack types : Int) (nc : Nat) (data : List UInt8) (rs : List Rl) (starts : List Nat) (v : Value) (hv : flat2 v = true) : (imC pages stack types nc data rs starts v).Wf 3 :=
  ⟨by show NG ≤ 67; decide, Nat.le_refl _, ⟨⟨rfl, rfl, flat_bnd (rels_flat rs)⟩, ⟨rfl, rfl, flat_bnd (u32s_flat starts)⟩, trivial⟩, rfl, rfl, rfl, by kernel_rfl, okV_flat2 hv 1, fun x hx v hv => by
    simp only [imC, imH, List.mem_cons, List.not_mem_nil, or_false] at hx
    rcases hx with rfl | rfl
    · exact okV_flat0 (rels_flat rs v hv) 3
    · exact okV_flat0 (u32s_flat starts v hv) 3⟩
theorem im_any {call : CallK} (hcall : SoundCall Try.prog call) {f : FuncId} {pages stack types : Int} {nc : Nat} {data : List UInt8} {rs : List Rl} {starts : List Nat} {T : List (Nat × Bool)} {v v' : Value} {n k' : Nat} {q : Prop}
    (hr : call f [imgV pages stack types nc rs.length starts.length data] (layS rs starts T) = some (v, ⟨n, imH rs starts, [], 0, [], k', q⟩))
    (hv : v = v') (hf : flat2 v' = true) (hu : isU v' = false) (hq : q) : ConOk Try.prog f 3 (imC pages stack types nc data rs starts v') := by
  subst hv
  refine conOk_run hcall (imWf pages stack types nc data rs starts v hf) (T := T) (p := fun l => Nat.blt l 67) (σ := id) hr hq ?_
  exact ⟨fun _ _ => rfl, ⟨⟨rfl, flat_all (rels_flat rs), rfl, rfl, rfl, trivial, (flat_map (rels_flat rs)).symm⟩, ⟨rfl, flat_all (u32s_flat starts), rfl, rfl, rfl, trivial, (flat_map (u32s_flat starts)).symm⟩, trivial⟩, rfl, trivial, ⟨okV_flat2 hf 1, (rnV_id 3 v).symm⟩, hu, ⟨⟨rfl, rfl, flat_bnd (rels_flat rs)⟩, ⟨rfl, rfl, flat_bnd (u32s_flat starts)⟩, trivial⟩, rfl, bnd_flat2 _ hf, fun x _ _ => .inl rfl⟩
theorem beq_ne {e : Nat} (h : e ≠ 0) (x : Nat) : pe e x = 0 := by unfold pe; cases h1 : Nat.beq e 0 <;> simp_all
theorem arg_lay {pages stack types : Int} {nc ns nr len : Nat} (hl : isLong nc len nr ns = false) (ha : isArg pages stack types nc ns = false) : layOk pages stack nc ns len := by
  unfold isLong at hl
  unfold isArg at ha
  simp only [Bool.or_eq_false_iff, decide_eq_false_iff_not, bne_eq_false_iff_eq, beq_eq_false_iff_ne, ne_eq] at hl ha
  obtain ⟨l1, l2, l3, l4, _⟩ := hl
  obtain ⟨a1, a2, a3, a4, a5, a6, a7, a8, a9, _⟩ := ha
  have h0 : 0 ≤ stack := by omega
  obtain ⟨s, rfl⟩ := Int.eq_ofNat_of_zero_le h0
  rw [show (256 : Int) = ((256 : Nat) : Int) from rfl, ← Int.ofNat_tmod] at a5
  exact ⟨by omega, by omega, by omega, by omega, by omega, by omega, by omega, by omega⟩
theorem lay_con (pages stack types : Int) (nc : Nat) (data : List UInt8) (rs : List Rl) (starts : List Nat) (hi : ImOk rs starts) : ConOk Try.prog 10 3 (imC pages stack types nc data rs starts (layRes pages stack types nc data rs starts)) := by
  have hb := baseC_ok (d := 3) selL_ok
  have h4 : (4 : Nat) < 9000000000000000000 := by omega
  have h9 : (9 : Nat) < 9000000000000000000 := by omega
  cases hl : isLong nc data.length rs.length starts.length
  · have hl' : (!!isLong nc data.length rs.length starts.length) = false := by rw [hl]; rfl
    cases ha : isArg pages stack types nc starts.length
    · have ha' : (!!isArg pages stack types nc starts.length) = false := by rw [ha]; rfl
      have hlay := arg_lay hl ha
      cases hf : isFar nc starts
      · have hn : ∀ i, i < starts.length → starts.getD i 0 < nc := fun i hi => by
          have := none_of hf i hi; simpa using this
        cases hg : layBig pages stack nc starts.length data.length
        · have hg' : (!!layBig pages stack nc starts.length data.length) = false := by rw [hg]; rfl
          have hm : rs.length ≤ 100000 := by
            unfold isLong at hl; simp only [Bool.or_eq_false_iff, decide_eq_false_iff_not] at hl; omega
          have hpk : pk (layBig pages stack nc starts.length data.length) (r256 (4 * nc)) = ((r256 (4 * nc) : Nat) : Int) := by rw [hg]; rfl
          have hc : 0 ≤ pk (layBig pages stack nc starts.length data.length) (r256 (4 * nc)) := by rw [hpk]; omega
          have hct : (pk (layBig pages stack nc starts.length data.length) (r256 (4 * nc))).toNat = r256 (4 * nc) := by rw [hpk]; rfl
          have hro : ∀ i, i < rs.length → rightOk nc data.length (0 : Int).toNat (pk (layBig pages stack nc starts.length data.length) (r256 (4 * nc))).toNat (rl0 rs i) := fun i hir => by
            rw [hct]
            have := r256_le (4 * nc)
            refine ⟨?_, hlay.2.2.2.2.2.1, hlay.2.2.2.2.2.2.2, by simp, by have := hlay.2.2.2.2.2.1; omega⟩
            unfold rl0; rw [List.getD_eq_getElem?_getD, List.getElem?_eq_getElem hir]; exact hi.rels _ (List.getElem_mem hir)
          cases hd : isBad types nc data.length rs
          · have he : errOf pages stack types nc data rs starts = 0 := by unfold errOf; rw [hl, ha, hf, hg, hd]; rfl
            have hn2 : ∀ i, i < rs.length → relRight types nc data.length (0 : Int).toNat (pk (layBig pages stack nc starts.length data.length) (r256 (4 * nc))).toNat (rl0 rs i) (behindN rs i) = true := fun i hir => by
              rw [hct]; have := none_of hd i hir; simpa [relGood] using this
            have hh := lay_ok pages stack types nc data rs starts hi.len hi.nums hn hm (by omega) hc hro hn2
            rw [lenT_eq] at hh
            refine im_any (run_ok i_names hb (lpOf_ok _) 10) hh ?_ rfl rfl ?_
            · unfold layRes layV; rw [he, hg]; rfl
            · repeat' (with_reducible apply And.intro)
              all_goals first | exact h4 | exact h9 | exact hl' | exact ha' | exact hg' | exact hlay | with_reducible trivial | with_reducible rfl
          · obtain ⟨j, hj, hv, hn2⟩ := first_of _ _ hd
            have he : errOf pages stack types nc data rs starts = 2 := by unfold errOf; rw [hl, ha, hf, hg, hd]; rfl
            have hv' : relRight types nc data.length (0 : Int).toNat (pk (layBig pages stack nc starts.length data.length) (r256 (4 * nc))).toNat (rl0 rs j) (behindN rs j) = false := by
              rw [hct]; simpa [relGood] using hv
            have hn2' : ∀ i, i < j → relRight types nc data.length (0 : Int).toNat (pk (layBig pages stack nc starts.length data.length) (r256 (4 * nc))).toNat (rl0 rs i) (behindN rs i) = true := fun i hij => by
              rw [hct]; have := hn2 i hij; simpa [relGood] using this
            have hh := lay_bad pages stack types nc data rs starts hi.len hi.nums hn hm (by omega) hc hro j hj hv' hn2'
            rw [lenT_eq] at hh
            refine im_any (run_ok i_names hb (lpOf_ok _) 10) hh ?_ rfl rfl ?_
            · unfold layRes layV; rw [he]; rfl
            · repeat' (with_reducible apply And.intro)
              all_goals first | exact h4 | exact h9 | exact hl' | exact ha' | exact hg' | exact hlay | with_reducible trivial | with_reducible rfl
        · have hg' : (!!layBig pages stack nc starts.length data.length) = true := by rw [hg]; rfl
          have he : errOf pages stack types nc data rs starts = 13 := by unfold errOf; rw [hl, ha, hf, hg]; rfl
          have hh := lay_big pages stack types nc data rs starts hi.len hi.nums hn
          rw [lenT_eq] at hh
          refine im_any (run_ok i_names hb (lpOf_ok _) 10) hh ?_ rfl rfl ?_
          · unfold layRes layV; rw [he]; rfl
          · repeat' (with_reducible apply And.intro)
            all_goals first | exact h4 | exact h9 | exact hl' | exact ha' | exact hg' | exact hlay | with_reducible trivial | with_reducible rfl
      · obtain ⟨j, hj, hv, hn⟩ := first_of _ _ hf
        have he : errOf pages stack types nc data rs starts = 2 := by unfold errOf; rw [hl, ha, hf]; rfl
        have hh := lay_far pages stack types nc data rs starts j hi.len hi.nums hj (by simpa using hv) (fun i hij => by have := hn i hij; simpa using this)
        rw [lenT_eq] at hh
        refine im_any (run_ok i_names hb (lpOf_ok _) 10) hh ?_ rfl rfl ?_
        · unfold layRes layV; rw [he]; rfl
        · repeat' (with_reducible apply And.intro)
          all_goals first | exact h4 | exact h9 | exact hl' | exact ha' | with_reducible trivial | with_reducible rfl
    · have ha' : (!!isArg pages stack types nc starts.length) = true := by rw [ha]; rfl
      have he : errOf pages stack types nc data rs starts = 2 := by unfold errOf; rw [hl, ha]; rfl
      have hh := lay_arg pages stack types nc data rs starts
      rw [lenT_eq] at hh
      refine im_any (run_ok i_names hb (noLoop_ok _) 10) hh ?_ rfl rfl ?_
      · unfold layRes layV; rw [he]; rfl
      · repeat' (with_reducible apply And.intro)
        all_goals first | exact h4 | exact h9 | exact hl' | exact ha' | with_reducible trivial | with_reducible rfl
  · have hl' : (!!isLong nc data.length rs.length starts.length) = true := by rw [hl]; rfl
    have he : errOf pages stack types nc data rs starts = 3 := by unfold errOf; rw [hl]; rfl
    have hh := lay_long pages stack types nc data rs starts
    rw [lenT_eq] at hh
    refine im_any (run_ok i_names hb (noLoop_ok _) 10) hh ?_ rfl rfl ?_
    · unfold layRes layV; rw [he]; rfl
    · repeat' (with_reducible apply And.intro)
      all_goals first | exact h4 | exact h9 | exact hl' | with_reducible trivial | with_reducible rfl
end Go.Proofs.Ytdljpnebpoaeiaa
