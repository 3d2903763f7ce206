/-
  LoaderWithin: the proof's last part: the statement holds, with no condition.
-/
import Derived.ChangeSame
import Derived.ChangeSlices
import Derived.Deep.Fields
import Derived.Deep.Slices
import Derived.Lib.SmallJoins
import Derived.OpenShut
import Derived.Test.YtliidiceljdgmaaQLoaderWithinE
set_option linter.unusedSimpArgs false
set_option linter.unusedVariables false
set_option linter.unusedSectionVars false
namespace Go.Proofs.Ytliidiceljdgmaa
open Go.ChangeShapes Go.WideShapes Go.Deep
section
variable {H : Type} {enc : TypeId × Value → H} {P : Program} {w : World} {base : Nat} {spare : Nat → Bool} {held : Bool}
theorem open_slice_fields {t e : TypeId} {fs : Array Field} {fuel : Nat} {cs : List Value} {x : DataW H × List MemPlace} (ht : P.underlying t = some (.slice e)) (he : P.underlying e = some (.struct fs))
  (hone : oneCellFields P fs = true) (hC : P.cellsOf e = fs.size) (h : DataW.trod enc P w base spare held fuel t cs = some x) :
  (cs = [.slice none 0 0] ∧ x = (.nil,[])) ∨
  ∃ (a : Addr) (len cap m : Nat) (D : Nat → DataW H) (Pl : Nat → List MemPlace),cs = [.slice (some a) len cap] ∧ base ≤ a.block ∧ len ≤ cap ∧ cap ≤ maxLen ∧ m = (if spare a.block then cap else len) ∧
   x = (.slice ((List.range len).map D) ((List.range (m - len)).map fun j => D (len + j)),MemPlace.row a (m * fs.size) ++ (List.range m).flatMap Pl) ∧
   ∀ i,i < m → ∃ (ys : List (DataW H × List MemPlace)) (n : Nat),D i = .agg (ys.map (·.1)) ∧ Pl i = ys.flatMap (·.2) ∧ ys.length = fs.size ∧
    ∀ (j : Nat) (f : Field),fs[j]? = some f → ∃ (v : Value) (y : DataW H × List MemPlace),w.cell? (a.add (i * fs.size + j)) = some v ∧ ys[j]? = some y ∧ DataW.trod enc P w base spare held n f.type [v] = some y:=by
 rcases open_slice ht h with h0 | ⟨a,len,cap,m,n,D,Pl,hcs,hb,hl,hm,hmm,hx,hi⟩
 ·exact .inl h0
 ·refine .inr ⟨a,len,cap,m,D,Pl,hcs,hb,hl,hm,hmm,by rw [hC] at hx; exact hx,fun i him => ?_⟩
  obtain ⟨cs',hc,ht'⟩:=hi i him
  rw [hC] at hc
  obtain ⟨ys,n',hn',hy,hlen,hyl,hf⟩:=DataW.trod_struct he ht'
  obtain ⟨_,hcl,hat⟩:=World.cells?_some hc
  simp only [rr, tt, Prod.mk.injEq] at hy
  refine ⟨ys,n',hy.1,hy.2,hyl,fun j f hj => ?_⟩
  obtain ⟨ho,hk⟩:=hone_of hone j f hj
  have hjl : j < fs.size:=(Array.getElem?_eq_some_iff.1 hj).1
  have hcell:=hat j hjl
  have hv : cs'[j]? = some (cs'[j]'(by omega)):=List.getElem?_eq_getElem (by omega)
  have h1:=hf j f hj
  rw [ho,hk] at h1
  have hone' : (cs'.drop j).take 1 = [cs'[j]'(by omega)]:=by
   rw [List.drop_eq_getElem_cons (by omega)]
   rfl
  rw [hone'] at h1
  have hys : ys[j]? = some (ys[j]'(by omega)):=List.getElem?_eq_getElem (by omega)
  refine ⟨_,_,?_,hys,h1.trans hys⟩
  rw [← Go.Deep.add_add,hcell,hv]
end
end Go.Proofs.Ytliidiceljdgmaa
namespace Go.Proofs.Ytliidiceljdgmaa
open Go.ChangeShapes Go.WideShapes Go.Deep Go.RowKit
section
variable {H : Type} {enc : TypeId × Value → H} {P : Program} {w : World} {base : Nat} {spare : Nat → Bool} {held : Bool}
theorem open_agg_all {r : Reach} {b0 : Nat} {t : TypeId} {fs : Array Field} {v : Value} {d : DataW H} {p : List MemPlace} (hs : P.underlying t = some (.struct fs)) (hone : oneCellFields P fs = true) (hC : P.cellsOf t = fs.size)
  (hv : Value.okWide P w r b0 t v) (h : DataW.Trod enc P w base spare held t v d p) :
  ∃ cs : List Value,v = .agg cs.toArray ∧ cs.length = fs.size ∧ ∀ (j : Nat) (f : Field),fs[j]? = some f → ∃ (u : Value) (y : DataW H × List MemPlace) (n : Nat),cs[j]? = some u ∧ DataW.trod enc P w base spare held n f.type [u] = some y:=by
 obtain ⟨cs,rfl,hsz⟩:=okWide_struct hs hv
 obtain ⟨l⟩:=cs
 refine ⟨l,rfl,hsz.trans hC,fun j f hj => ?_⟩
 obtain ⟨fuel,hf⟩:=h
 obtain ⟨xs,n,_,hx,_,hlen,hg⟩:=DataW.trod_struct hs hf
 obtain ⟨o,k⟩:=hone_of hone j f hj
 have hjl : j < fs.size:=(Array.getElem?_eq_some_iff.1 hj).1
 have hl : l.length = fs.size:=hsz.trans hC
 have h1:=hg j f hj
 rw [o,k] at h1
 simp only [rr, tt, Value.cells] at h1
 have hone' : (l.drop j).take 1 = [l[j]'(by omega)]:=by
  rw [List.drop_eq_getElem_cons (by omega)]
  rfl
 rw [hone'] at h1
 exact ⟨l[j]'(by omega),xs[j]'(by omega),n,List.getElem?_eq_getElem (by omega),h1.trans (List.getElem?_eq_getElem (by omega))⟩
end
end Go.Proofs.Ytliidiceljdgmaa
namespace Go.Proofs.Ytliidiceljdgmaa
open Go.ChangeShapes Go.WideShapes Go.Deep Go.RowKit
open Sy
structure SlIs (W : World) (v : Value) (k : Nat) (cells : List Value) (n B O C : Nat) (S : Option Nat) : Prop where
 is : v = (match k with | 0 => .slice none 0 0 | 1 => .slice (some ⟨B,O,S⟩) 0 C | _ => .slice (some ⟨B,O,none⟩) n C)
 ok : slOk k n
 le : n ≤ C
 at_ : 2 ≤ k → ∃ arr ty fr,W.heap[B]? = some (.cells arr ty fr) ∧ O + cells.length ≤ arr.size ∧ ∀ j v,cells[j]? = some v → arr[O + j]? = some v
section
variable {H : Type} {enc : TypeId × Value → H} {P : Program} {W : World} {base : Nat} {spare : Nat → Bool} {held : Bool}
theorem cell_is {a : Addr} {v : Value} (h : W.cell? a = some v) : ∃ arr ty fr,W.heap[a.block]? = some (.cells arr ty fr) ∧ arr[a.off]? = some v ∧ a.spot = none:=by
 have hs:=World.cell?_spot h
 unfold World.cell? at h
 split at h
 ·rename_i c t f hb
  rw [hs] at h
  exact ⟨c,t,f,hb,by simpa using h,hs⟩
 ·cases h
theorem add_off {a : Addr} (h : a.spot = none) (i : Nat) : (a.add i).block = a.block ∧ (a.add i).off = a.off + i:=by
 obtain ⟨b,o,s⟩:=a
 subst h
 unfold Addr.add
 split <;> simp_all
theorem row_is {a : Addr} {cells : List Value} (h0 : 0 < cells.length) (h : ∀ i v,cells[i]? = some v → W.cell? (a.add i) = some v) : a.spot = none ∧ ∃ arr ty fr,W.heap[a.block]? = some (.cells arr ty fr) ∧ a.off + cells.length ≤ arr.size ∧ ∀ j v,cells[j]? = some v → arr[a.off + j]? = some v:=by
 have h1:=h 0 _ (List.getElem?_eq_getElem h0)
 rw [show a.add 0 = a by unfold Addr.add; simp] at h1
 obtain ⟨arr,ty,fr,q1,q2,q3⟩:=cell_is h1
 have hat : ∀ j v,cells[j]? = some v → arr[a.off + j]? = some v:=fun j v hj => by
  obtain ⟨arr',ty',fr',p1,p2,_⟩:=cell_is (h j v hj)
  obtain ⟨e1,e2⟩:=add_off q3 j
  rw [e1,q1] at p1
  cases p1
  rw [e2] at p2
  exact p2
 refine ⟨q3,arr,ty,fr,q1,?_,hat⟩
 have:=hat (cells.length - 1) _ (List.getElem?_eq_getElem (by omega))
 have:=(Array.getElem?_eq_some_iff.1 this).1
 omega
theorem u32_slice {t e : TypeId} {fuel : Nat} {u : Value} {x : DataW H × List MemPlace} (ht : P.underlying t = some (.slice e)) (he : P.underlying e = some (.int .u32)) (hc : P.cellsOf e = 1)
  (h : DataW.trod enc P W base spare held fuel t [u] = some x) : ∃ (k : Nat) (xs : List Nat) (B O C : Nat) (S : Option Nat),SlIs W u k (u32s xs) xs.length B O C S ∧ ∀ y ∈ xs,y < 4294967296:=by
 rcases open_ints ht he hc h with ⟨h1,_⟩ | ⟨a,len,cap,zs,h1,_,hl,_,hz,_,hcell,hw⟩
 ·simp only [rr, tt, List.cons.injEq,and_true] at h1
  exact ⟨0,[],0,0,0,none,⟨h1,⟨by omega,fun _ => rfl⟩,Nat.le_refl _,fun h => by omega⟩,fun y hy => by cases hy⟩
 ·simp only [rr, tt, List.cons.injEq,and_true] at h1
  subst h1
  have hlz : len ≤ zs.length:=by rw [hz]; split <;> omega
  by_cases h0 : len = 0
  ·subst h0
   obtain ⟨b,o,s⟩:=a
   exact ⟨1,[],b,o,cap,s,⟨rfl,⟨by omega,fun _ => rfl⟩,Nat.zero_le _,fun h => by omega⟩,fun y hy => by cases hy⟩
  ·have hlen : ((zs.take len).map Int.toNat).length = len:=by simp; omega
   have hget : ∀ i v,(u32s ((zs.take len).map Int.toNat))[i]? = some v → W.cell? (a.add i) = some v:=by
    intro i v hv
    unfold u32s at hv
    rw [List.getElem?_map,List.getElem?_map,List.getElem?_take] at hv
    split at hv
    ·rename_i hi
     rw [List.getElem?_eq_getElem (by omega)] at hv
     simp only [rr, tt, Option.map_some,Option.some.injEq] at hv
     have h2:=hcell i (by omega)
     have h3 : zs.getD i 0 = zs[i]'(by omega):=by rw [List.getD_eq_getElem?_getD,List.getElem?_eq_getElem (by omega)]; rfl
     rw [h3] at h2
     have h4:=wf_u32 (hw _ (List.getElem_mem (by omega : i < zs.length)))
     rw [h2,← hv]
     congr 2
     exact (Int.toNat_of_nonneg h4.1).symm
    ·cases hv
   have hul : (u32s ((zs.take len).map Int.toNat)).length = len:=by unfold u32s; rw [List.length_map]; exact hlen
   obtain ⟨hs,hrow⟩:=row_is (a:=a) (cells:=u32s ((zs.take len).map Int.toNat)) (by omega) hget
   obtain ⟨b,o,s⟩:=a
   simp only at hs
   subst hs
   refine ⟨2,(zs.take len).map Int.toNat,b,o,cap,none,⟨by rw [hlen]; rfl,⟨by omega,fun h => by omega⟩,by rw [hlen]; exact hl,fun _ => hrow⟩,fun y hy => ?_⟩
   obtain ⟨z,hz',rfl⟩:=List.mem_map.1 hy
   have h4:=wf_u32 (hw z (List.mem_of_mem_take hz'))
   omega
end
instance : Inhabited Rl:=⟨⟨0,false,0,0,0,0⟩⟩
theorem rels_at : ∀ (rs : List Rl) (i j : Nat),i < rs.length → j < 6 → (rels rs)[i * 6 + j]? = (relC (rl0 rs i))[j]?
 | [],i,j,h,_ => by simp at h
 | x :: rs,0,j,_,hj => by
  rw [rels_cons,List.getElem?_append_left (by simp only [rr, tt, relC,List.length_cons,List.length_nil]; omega)]
  simp [rl0]
 | x :: rs,i + 1,j,h,hj => by
  have hl : (relC x).length = 6:=rfl
  rw [rels_cons,List.getElem?_append_right (by rw [hl]; omega),hl,show (i + 1) * 6 + j - 6 = i * 6 + j by omega,rels_at rs i j (by simpa using h) hj]
  rfl
section
variable {H : Type} {enc : TypeId × Value → H} {W : World} {base : Nat} {spare : Nat → Bool} {held : Bool}
theorem rel_slice {fuel : Nat} {u : Value} {x : DataW H × List MemPlace} (h : DataW.trod enc Try.prog W base spare held fuel 23 [u] = some x) :
  ∃ (k : Nat) (rs : List Rl) (B O C : Nat) (S : Option Nat),SlIs W u k (rels rs) rs.length B O C S ∧ ∀ y ∈ rs,RlOk y:=by
 rcases open_slice_fields Try.underlying23 Try.underlying42 (by kernel_rfl) (by kernel_rfl) h with ⟨h1,_⟩ | ⟨a,len,cap,m,D,Pl,h1,_,hl,_,hm,_,hi⟩
 ·simp only [rr, tt, List.cons.injEq,and_true] at h1
  exact ⟨0,[],0,0,0,none,⟨h1,⟨by omega,fun _ => rfl⟩,Nat.le_refl _,fun h => by omega⟩,fun y hy => by cases hy⟩
 ·simp only [rr, tt, List.cons.injEq,and_true] at h1
  subst h1
  have hlm : len ≤ m:=by rw [hm]; split <;> omega
  by_cases h0 : len = 0
  ·subst h0
   obtain ⟨b,o,s⟩:=a
   exact ⟨1,[],b,o,cap,s,⟨rfl,⟨by omega,fun _ => rfl⟩,Nat.zero_le _,fun h => by omega⟩,fun y hy => by cases hy⟩
  ·obtain ⟨R,hR⟩:=choose_lt (n:=len) (α:=Rl) (p:=fun i r => RlOk r ∧ ∀ j v,(relC r)[j]? = some v → W.cell? (a.add (i * 6 + j)) = some v) (fun i hil => by
    obtain ⟨ys,n,_,_,_,hf⟩:=hi i (by omega)
    obtain ⟨v0,y0,c0,_,t0⟩:=hf 0 _ rfl
    obtain ⟨v1,y1,c1,_,t1⟩:=hf 1 _ rfl
    obtain ⟨v2,y2,c2,_,t2⟩:=hf 2 _ rfl
    obtain ⟨v3,y3,c3,_,t3⟩:=hf 3 _ rfl
    obtain ⟨v4,y4,c4,_,t4⟩:=hf 4 _ rfl
    obtain ⟨v5,y5,c5,_,t5⟩:=hf 5 _ rfl
    obtain ⟨n0,e0,_,w0⟩:=DataW.trod_int Try.underlying30 t0
    obtain ⟨n1,e1,_⟩:=DataW.trod_bool Try.underlying4 t1
    obtain ⟨n2,e2,_,w2⟩:=DataW.trod_int Try.underlying30 t2
    obtain ⟨n3,e3,_,w3⟩:=DataW.trod_int Try.underlying30 t3
    obtain ⟨n4,e4,_,w4⟩:=DataW.trod_int Try.underlying31 t4
    obtain ⟨n5,e5,_,w5⟩:=DataW.trod_int Try.underlying31 t5
    simp only [rr, tt, List.cons.injEq,and_true] at e0 e1 e2 e3 e4 e5
    subst e0 e1 e2 e3 e4 e5
    have b0:=wf_u32 w0
    have b2:=wf_u32 w2
    have b3:=wf_u32 w3
    have b4:=wf_u16 w4
    have b5:=wf_u16 w5
    refine ⟨⟨n0.toNat,n1,n2.toNat,n3.toNat,n4.toNat,n5.toNat⟩,⟨by show n0.toNat < _; omega,by show n2.toNat < _; omega,by show n3.toNat < _; omega,by show n4.toNat < _; omega,by show n5.toNat < _; omega⟩,fun j v hj => ?_⟩
    have hj6 : j < 6:=(List.getElem?_eq_some_iff.1 hj).1
    have cc : ∀ z : Int,0 ≤ z → ((z.toNat : Nat) : Int) = z:=fun z hz => Int.toNat_of_nonneg hz
    unfold relC at hj
    simp only [rr, tt, cc n0 b0.1,cc n2 b2.1,cc n3 b3.1,cc n4 b4.1,cc n5 b5.1] at hj
    obtain rfl | rfl | rfl | rfl | rfl | rfl : j = 0 ∨ j = 1 ∨ j = 2 ∨ j = 3 ∨ j = 4 ∨ j = 5:=by omega
    all_goals
     simp at hj
     subst hj
     assumption)
   have hlen : ((List.range len).map R).length = len:=by simp
   have h0r : ∀ i,i < len → rl0 ((List.range len).map R) i = R i:=fun i hil => by
    unfold rl0; rw [List.getD_eq_getElem?_getD,List.getElem?_map,List.getElem?_range hil]; rfl
   have hget : ∀ q v,(rels ((List.range len).map R))[q]? = some v → W.cell? (a.add q) = some v:=by
    intro q v hv
    have hq : q < len * 6:=by
     have:=(List.getElem?_eq_some_iff.1 hv).1
     rw [rels_len,hlen] at this; exact this
    have e : q = q / 6 * 6 + q % 6:=by omega
    rw [e,rels_at _ _ _ (by rw [hlen]; omega) (Nat.mod_lt _ (by omega)),h0r _ (by omega)] at hv
    rw [e]
    exact (hR (q / 6) (by omega)).2 _ _ hv
   obtain ⟨hs,hrow⟩:=row_is (a:=a) (cells:=rels ((List.range len).map R)) (by rw [rels_len,hlen]; omega) hget
   obtain ⟨b,o,s⟩:=a
   simp only at hs
   subst hs
   refine ⟨2,(List.range len).map R,b,o,cap,none,⟨by rw [hlen]; rfl,⟨by omega,fun h => by omega⟩,by rw [hlen]; exact hl,fun _ => hrow⟩,fun y hy => ?_⟩
   obtain ⟨i,hi',rfl⟩:=List.mem_map.1 hy
   exact (hR i (by simpa using hi')).1
end
def ren3 (B1 O1 C1 : Nat) (S1 : Option Nat) (B2 O2 C2 : Nat) (S2 : Option Nat) (B3 O3 C3 : Nat) (S3 : Option Nat) : Ren :=
 ⟨fun l => if l < NG then l else if l = 64 then B1 else if l = 65 then B2 else B3,fun l => if l < NG then 0 else if l = 64 then O1 else if l = 65 then O2 else O3,
  fun l => if l = 64 then (O1,S1) else if l = 65 then (O2,S2) else (O3,S3),fun l => if l = 64 then C1 else if l = 65 then C2 else C3,fun l => Nat.blt l 67,
  fun _ h => if_pos h,fun _ h => if_pos h,fun l h => blt_yes (Nat.lt_trans h (by decide))⟩
theorem cap_big (r : Ren) (g : Nat) : r.cap (big + g) = r.c g:=cap_letter r g
section
variable {r : Ren} {W : World} {v : Value} {k n B O C g : Nat} {S : Option Nat} {cells : List Value}
theorem sl_val (h : SlIs W v k cells n B O C S) (hb : r.b g = B) (hw : r.w g = O) (ho : r.o g = (O,S)) (hc : r.c g = C) : v = r.val (sl k g n):=by
 rw [h.is]
 rcases k with _ | _ | k
 ·show Value.slice none 0 0 = r.val (.slice none 0 0)
  rw [val_slice]; simp only [rr, tt, Option.map_none,Ren.cap]; rfl
 ·show Value.slice (some ⟨B,O,S⟩) 0 C = r.val (.slice (some ⟨g,0,some g⟩) 0 (big + g))
  rw [val_slice,cap_big,hc]; simp [Ren.addr,hb,ho]
 ·show Value.slice (some ⟨B,O,none⟩) n C = r.val (.slice (some ⟨g,0,none⟩) n (big + g))
  rw [val_slice,cap_big,hc]; simp [Ren.addr,hb,hw]
theorem sl_bnd {d : Nat → Bool} (hd : d g = true) : bnd d (sl k g n) = true:=by
 unfold sl
 split
 ·exact bnd_flat0 _ rfl
 ·rw [bnd_slice]; simp [bndA,hd]
 ·rw [bnd_slice]; simp [bndA,hd]
theorem sl_block (h : SlIs W v k cells n B O C S) (hb : r.b g = B) (hw : r.w g = O) (hf : ∀ u ∈ cells,flat0 u = true) : ∀ x ∈ slH k g cells,x.1 = g ∧ x.2.rw = false ∧ x.2.op = some (0,0) ∧ x.2.cells = cells ∧ Sy.Is r x.2 x.1 W:=by
 intro x hx
 unfold slH at hx
 split at hx
 ·cases hx
 ·cases hx
 ·rename_i k0 k1
  obtain rfl:=List.mem_singleton.1 hx
  refine ⟨rfl,rfl,rfl,rfl,.inl ⟨rfl,?_⟩⟩
  have hk2 : 2 ≤ k:=by
   rcases Nat.lt_or_ge k 2 with h | h
   ·have : k = 0 ∨ k = 1:=by omega
    rcases this with h | h
    ·exact absurd h k0
    ·exact absurd h k1
   ·exact h
  obtain ⟨arr,ty,fr,p1,p2,p3⟩:=h.at_ hk2
  refine ⟨arr,ty,fr,by rw [hb]; exact p1,⟨.inl rfl,by rw [hw]; exact p2⟩,fun j u hj => ?_,fun h => by cases h⟩
  rw [hw,val_flat0 r (hf u (List.mem_of_getElem? hj))]
  exact p3 j u hj
end
theorem in_good {W : World} {v1 v2 v3 : Value} {i j k : Nat} {cs : List Nat} {rs : List Rl} {starts : List Nat} {B1 O1 C1 B2 O2 C2 B3 O3 C3 : Nat} {S1 S2 S3 : Option Nat}
  (h1 : SlIs W v1 i (u32s cs) cs.length B1 O1 C1 S1) (h2 : SlIs W v2 j (rels rs) rs.length B2 O2 C2 S2) (h3 : SlIs W v3 k (u32s starts) starts.length B3 O3 C3 S3) (T : List (Nat × Bool)) :
  Sy.Good (ren3 B1 O1 C1 S1 B2 O2 C2 S2 B3 O3 C3 S3) ⟨67,inH i j k cs rs starts,inLo cs rs starts,0,T,0,True⟩ W:=by
 have key : ∀ x ∈ inH i j k cs rs starts,(x.1 = 64 ∨ x.1 = 65 ∨ x.1 = 66) ∧ x.2.rw = false ∧ x.2.op = some (0,0) ∧ (∀ u ∈ x.2.cells,flat0 u = true) ∧ Sy.Is (ren3 B1 O1 C1 S1 B2 O2 C2 S2 B3 O3 C3 S3) x.2 x.1 W:=by
  intro x hx
  unfold inH at hx
  rw [List.mem_append,List.mem_append] at hx
  rcases hx with (hx | hx) | hx
  ·obtain ⟨e1,e2,e3,e4,e5⟩:=sl_block (r:=ren3 B1 O1 C1 S1 B2 O2 C2 S2 B3 O3 C3 S3) (g:=64) h1 rfl rfl (u32s_flat cs) x hx
   exact ⟨.inl e1,e2,e3,by rw [e4]; exact u32s_flat cs,e5⟩
  ·obtain ⟨e1,e2,e3,e4,e5⟩:=sl_block (r:=ren3 B1 O1 C1 S1 B2 O2 C2 S2 B3 O3 C3 S3) (g:=65) h2 rfl rfl (rels_flat rs) x hx
   exact ⟨.inr (.inl e1),e2,e3,by rw [e4]; exact rels_flat rs,e5⟩
  ·obtain ⟨e1,e2,e3,e4,e5⟩:=sl_block (r:=ren3 B1 O1 C1 S1 B2 O2 C2 S2 B3 O3 C3 S3) (g:=66) h3 rfl rfl (u32s_flat starts) x hx
   exact ⟨.inr (.inr e1),e2,e3,by rw [e4]; exact u32s_flat starts,e5⟩
 refine ⟨fun g k hk => (key _ (look_mem hk)).2.2.2.2,fun g g' k k' e1 e2 hrw _ => ?_,fun g k hk => ?_,fun x hx => ?_⟩
 ·have:=(key _ (look_mem e1)).2.1
  simp only [] at this
  rw [this] at hrw; cases hrw
 ·obtain ⟨q1,_,q3,q4,_⟩:=key _ (look_mem hk)
  refine ⟨blt_yes (by simp only [] at q1; omega),fun p hp => ?_,fun u hu => ⟨bnd_flat0 _ (q4 u hu),flat0_oneCell (q4 u hu)⟩⟩
  simp only [] at q3
  rw [q3] at hp
  cases hp
  rfl
 ·simp only [rr, tt, inLo,List.mem_cons,List.not_mem_nil,or_false] at hx
  rcases hx with rfl | rfl | rfl
  ·exact ⟨h1.le,rfl⟩
  ·exact ⟨h2.le,rfl⟩
  ·exact ⟨h3.le,rfl⟩
theorem eq7 {l : List Value} {a b c d e f g : Value} (hl : l.length = 7) (h0 : l[0]? = some a) (h1 : l[1]? = some b) (h2 : l[2]? = some c) (h3 : l[3]? = some d) (h4 : l[4]? = some e) (h5 : l[5]? = some f) (h6 : l[6]? = some g) : l = [a,b,c,d,e,f,g]:=by
 match l,hl with
 | [x0,x1,x2,x3,x4,x5,x6],_ =>
  simp only [rr, tt, List.getElem?_cons_zero,List.getElem?_cons_succ,Option.some.injEq] at h0 h1 h2 h3 h4 h5 h6
  subst h0 h1 h2 h3 h4 h5 h6
  rfl
set_option maxRecDepth 100000 in
theorem open_img {H : Type} {enc : TypeId × Value → H} {W : World} {base b0 : Nat} {rc : Reach} {sp : Nat → Bool} {hd : Bool} {v : Value} {d : DataW H} {p : List MemPlace}
  (hv : Value.okWide Try.prog W rc b0 25 v) (h : DataW.Trod enc Try.prog W base sp hd 25 v d p) :
  ∃ (pages stack types : Int) (data : List UInt8) (cs : List Nat) (rs : List Rl) (starts : List Nat) (v1 v2 v3 : Value) (i j k B1 O1 C1 B2 O2 C2 B3 O3 C3 : Nat) (S1 S2 S3 : Option Nat),
   v = .agg ⟨[.int .i64 pages,.int .i64 stack,.int .i64 types,v1,.string ⟨⟨data⟩⟩,v2,v3]⟩ ∧ SlIs W v1 i (u32s cs) cs.length B1 O1 C1 S1 ∧ SlIs W v2 j (rels rs) rs.length B2 O2 C2 S2 ∧ SlIs W v3 k (u32s starts) starts.length B3 O3 C3 S3 ∧
   (∀ x ∈ cs,x < 4294967296) ∧ (∀ x ∈ rs,RlOk x) ∧ (∀ x ∈ starts,x < 4294967296):=by
 obtain ⟨l,rfl,hl,hf⟩:=open_agg_all Try.underlying25 (by kernel_rfl) (by kernel_rfl) hv h
 obtain ⟨u0,y0,m0,g0,t0⟩:=hf 0 _ rfl
 obtain ⟨u1,y1,m1,g1,t1⟩:=hf 1 _ rfl
 obtain ⟨u2,y2,m2,g2,t2⟩:=hf 2 _ rfl
 obtain ⟨u3,y3,m3,g3,t3⟩:=hf 3 _ rfl
 obtain ⟨u4,y4,m4,g4,t4⟩:=hf 4 _ rfl
 obtain ⟨u5,y5,m5,g5,t5⟩:=hf 5 _ rfl
 obtain ⟨u6,y6,m6,g6,t6⟩:=hf 6 _ rfl
 obtain ⟨pages,e0,_⟩:=DataW.trod_int Try.underlying3 t0
 obtain ⟨stack,e1,_⟩:=DataW.trod_int Try.underlying3 t1
 obtain ⟨types,e2,_⟩:=DataW.trod_int Try.underlying3 t2
 obtain ⟨str,e4,_⟩:=DataW.trod_string Try.underlying9 t4
 obtain ⟨i,cs,B1,O1,C1,S1,s1,n1⟩:=u32_slice Try.underlying22 Try.underlying30 (by kernel_rfl) t3
 obtain ⟨j,rs,B2,O2,C2,S2,s2,n2⟩:=rel_slice t5
 obtain ⟨k,starts,B3,O3,C3,S3,s3,n3⟩:=u32_slice Try.underlying22 Try.underlying30 (by kernel_rfl) t6
 simp only [rr, tt, List.cons.injEq,and_true] at e0 e1 e2 e4
 subst e0 e1 e2 e4
 obtain rfl:=eq7 hl g0 g1 g2 g3 g4 g5 g6
 obtain ⟨⟨data⟩⟩:=str
 exact ⟨pages,stack,types,data,cs,rs,starts,u3,u5,u6,i,j,k,B1,O1,C1,B2,O2,C2,B3,O3,C3,S1,S2,S3,rfl,s1,s2,s3,n1,n2,n3⟩
theorem sl_form {k g n : Nat} (h : slOk k n) : ∃ (a : Option Addr) (c : Nat),sl k g n = .slice a n c:=by
 obtain ⟨_,h2⟩:=h
 rcases k with _ | _ | k
 ·obtain rfl:=h2 (by omega); exact ⟨none,0,rfl⟩
 ·obtain rfl:=h2 (by omega); exact ⟨some ⟨g,0,some g⟩,big + g,rfl⟩
 ·exact ⟨some ⟨g,0,none⟩,big + g,rfl⟩
theorem inH_mem {i j k : Nat} {cs : List Nat} {rs : List Rl} {starts : List Nat} : ∀ x ∈ inH i j k cs rs starts,(x.1 = 64 ∨ x.1 = 65 ∨ x.1 = 66) ∧ x.2.rw = false ∧ x.2.op = some (0,0) ∧ ∀ u ∈ x.2.cells,flat0 u = true:=by
 have one : ∀ (k g : Nat) (cells : List Value),(∀ u ∈ cells,flat0 u = true) → ∀ x ∈ slH k g cells,x.1 = g ∧ x.2.rw = false ∧ x.2.op = some (0,0) ∧ ∀ u ∈ x.2.cells,flat0 u = true:=by
  intro k g cells hf x hx
  unfold slH at hx
  split at hx
  ·cases hx
  ·cases hx
  ·obtain rfl:=List.mem_singleton.1 hx
   exact ⟨rfl,rfl,rfl,hf⟩
 intro x hx
 unfold inH at hx
 rw [List.mem_append,List.mem_append] at hx
 rcases hx with (hx | hx) | hx
 ·obtain ⟨e1,e⟩:=one _ _ _ (u32s_flat cs) x hx; exact ⟨.inl e1,e⟩
 ·obtain ⟨e1,e⟩:=one _ _ _ (rels_flat rs) x hx; exact ⟨.inr (.inl e1),e⟩
 ·obtain ⟨e1,e⟩:=one _ _ _ (u32s_flat starts) x hx; exact ⟨.inr (.inr e1),e⟩
end Go.Proofs.Ytliidiceljdgmaa
namespace Go.Proofs.Ytliidiceljdgmaa
open Go.ChangeShapes Go.WideShapes Go.ChangeAt Go.RowKit
open Sy
set_option maxRecDepth 100000
theorem img_walkS {call : CallK} (hcall : SoundCall Try.prog call) {f : FuncId} {W : World} {v1 v2 v3 : Value} {i j k : Nat} {pages stack types : Int} {data : List UInt8} {cs : List Nat} {rs : List Rl} {starts : List Nat} {B1 O1 C1 B2 O2 C2 B3 O3 C3 : Nat} {S1 S2 S3 : Option Nat}
  (h1 : SlIs W v1 i (u32s cs) cs.length B1 O1 C1 S1) (h2 : SlIs W v2 j (rels rs) rs.length B2 O2 C2 S2) (h3 : SlIs W v3 k (u32s starts) starts.length B3 O3 C3 S3) {hs : Sy.Heap} (hsub : ∀ g b,Sy.look hs g = some b → Sy.look (inH i j k cs rs starts) g = some b) (hro : hs.all (fun y => !y.2.rw) = true)
  (run : ∃ (T : List (Nat × Bool)) (q : Prop),obs (call f [inV i j k pages stack types data cs rs starts] ⟨67,hs,[],0,T,0,True⟩) = some (.bool true,q) ∧ q) :
  Calls Try.prog f #[.agg ⟨[.int .i64 pages,.int .i64 stack,.int .i64 types,v1,.string ⟨⟨data⟩⟩,v2,v3]⟩] W fun e W' => e = .returned (.bool true) ∧ Below W.heap.size W W':=by
 obtain ⟨T,q,hr,hq⟩:=run
 have hb : ∀ u ∈ [inV i j k pages stack types data cs rs starts],bnd (ren3 B1 O1 C1 S1 B2 O2 C2 S2 B3 O3 C3 S3).d u = true:=fun u hu => by
  obtain rfl:=List.mem_singleton.1 hu
  unfold inV
  rw [bnd_agg]
  have e1 : bnd (ren3 B1 O1 C1 S1 B2 O2 C2 S2 B3 O3 C3 S3).d (sl i 64 cs.length) = true:=sl_bnd rfl
  have e2 : bnd (ren3 B1 O1 C1 S1 B2 O2 C2 S2 B3 O3 C3 S3).d (sl j 65 rs.length) = true:=sl_bnd rfl
  have e3 : bnd (ren3 B1 O1 C1 S1 B2 O2 C2 S2 B3 O3 C3 S3).d (sl k 66 starts.length) = true:=sl_bnd rfl
  rw [Array.all_eq_true_iff_forall_mem]
  intro u hu
  simp only [rr, tt, List.mem_toArray,List.mem_cons,List.not_mem_nil,or_false] at hu
  rcases hu with rfl | rfl | rfl | rfl | rfl | rfl | rfl
  ·exact bnd_flat0 _ rfl
  ·exact bnd_flat0 _ rfl
  ·exact bnd_flat0 _ rfl
  ·exact e1
  ·exact bnd_flat0 _ rfl
  ·exact e2
  ·exact e3
 have hw : WFn ⟨67,hs,[],0,T,0,True⟩:=⟨fun g kb hk => by
  have:=(inH_mem _ (look_mem (hsub g kb hk))).1
  show g < 67
  simp only [] at this
  omega,fun x hx => by cases hx⟩
 have hg : Sy.Good (ren3 B1 O1 C1 S1 B2 O2 C2 S2 B3 O3 C3 S3) ⟨67,hs,[],0,T,0,True⟩ W :=
  (in_good h1 h2 h3 T).sub' (fun g b hk => ⟨b,hsub g b hk,.inl rfl,rfl,rfl,id⟩) (fun x hx => by cases hx)
 have h:=yes_ok hcall hr hq hw hro hg (fun l hl => blt_no hl) hb
 have hv : (Value.agg ⟨[.int .i64 pages,.int .i64 stack,.int .i64 types,v1,.string ⟨⟨data⟩⟩,v2,v3]⟩) = (ren3 B1 O1 C1 S1 B2 O2 C2 S2 B3 O3 C3 S3).val (inV i j k pages stack types data cs rs starts):=by
  have e1:=sl_val (r:=ren3 B1 O1 C1 S1 B2 O2 C2 S2 B3 O3 C3 S3) (g:=64) h1 rfl rfl rfl rfl
  have e2:=sl_val (r:=ren3 B1 O1 C1 S1 B2 O2 C2 S2 B3 O3 C3 S3) (g:=65) h2 rfl rfl rfl rfl
  have e3:=sl_val (r:=ren3 B1 O1 C1 S1 B2 O2 C2 S2 B3 O3 C3 S3) (g:=66) h3 rfl rfl rfl rfl
  unfold inV
  rw [val_agg]
  simp only [rr, tt, List.map_toArray,List.map_cons,List.map_nil,val_int,val_string,← e1,← e2,← e3]
 rw [hv]
 exact h
theorem r256_is (n : Nat) : n ≤ r256 n ∧ r256 n % 256 = 0 ∧ r256 n ≤ n + 255:=by unfold r256; omega
theorem sl_okV {q : Nat → Bool} {d k g n : Nat} (h : q g = true) : okV q d (sl k g n) = true:=by
 unfold sl
 split <;> cases d <;> simp [okV,bndA,h,flat0,big]
theorem err_all5 {p s t : Int} {nc : Nat} {d : List UInt8} {rs : List Rl} {so : List Nat} (he : errOf p s t nc d rs so = 0) : isArg p s t nc so.length = false ∧ isFar nc so = false ∧ layBig p s nc so.length d.length = false ∧ isBad t nc d.length rs = false:=by
 unfold errOf at he
 cases hl : isLong nc d.length rs.length so.length <;> rw [hl] at he <;> try (simp at he; done)
 cases ha : isArg p s t nc so.length <;> rw [ha] at he <;> try (simp at he; done)
 cases hf : isFar nc so <;> rw [hf] at he <;> try (simp at he; done)
 cases hg : layBig p s nc so.length d.length <;> rw [hg] at he <;> try (simp at he; done)
 cases hb : isBad t nc d.length rs <;> rw [hb] at he <;> try (simp at he; done)
 exact ⟨rfl,rfl,rfl,rfl⟩
theorem img_good {p s t : Int} {cs : List Nat} {d : List UInt8} {rs : List Rl} {so : List Nat} (he : errOf p s t cs.length d rs so = 0) (l1 : cs.length ≤ 4096) (l2 : d.length ≤ 16384) (l4 : so.length ≤ 4) (n1 : ∀ x ∈ cs,x < 4294967296) (n2 : ∀ x ∈ rs,RlOk x) :
  ∃ P S T : Nat,p = P ∧ s = S ∧ t = T ∧ LqOk P S T cs d so (r256 (4 * cs.length)) (r256 (4 * cs.length)) (r256 d.length) (r256 (4 * cs.length) + r256 d.length) (S * so.length) (layFrom S cs.length so.length d.length) (P * 256 - layFrom S cs.length so.length d.length) ∧ StOk P S (r256 (4 * cs.length) + r256 d.length) so.length ∧
   (∀ r ∈ rs,RlFit (r256 (4 * cs.length)) (P * 256) r) ∧ (∀ r ∈ rs,r256 (4 * cs.length) + r.at_ + 16 ≤ r256 (4 * cs.length) + r256 d.length) ∧ 1 ≤ so.length ∧ layFrom S cs.length so.length d.length + 256 ≤ P * 256:=by
 obtain ⟨e2,e3,e4,e5⟩:=err_all5 he
 obtain ⟨r1,r2,r3⟩:=r256_is (4 * cs.length)
 obtain ⟨r4,r5,r6⟩:=r256_is d.length
 have e20 : so.length ≠ 0:=fun h => by
  have:=e2
  unfold isArg at this
  simp [h] at this
 simp [isArg] at e2
 obtain ⟨P,rfl⟩:=Int.eq_ofNat_of_zero_le (show 0 ≤ p by omega)
 obtain ⟨S,rfl⟩:=Int.eq_ofNat_of_zero_le (show 0 ≤ s by omega)
 obtain ⟨T,rfl⟩:=Int.eq_ofNat_of_zero_le (show 0 ≤ t by omega)
 have hS : S % 256 = 0:=by
  have h : ((S : Int)).tmod 256 = 0:=e2.2.2.2.2.1
  rw [show (S : Int).tmod (256 : Int) = ((S % 256 : Nat) : Int) from (Int.ofNat_tmod S 256).symm] at h
  omega
 have hfar : ∀ x ∈ so,x < cs.length:=fun x hx => by
  obtain ⟨n,hn,rfl⟩:=List.getElem_of_mem hx
  unfold isFar at e3
  have:=List.any_eq_false.1 e3 n (List.mem_range.2 hn)
  simp [List.getD_eq_getElem?_getD,List.getElem?_eq_getElem hn] at this
  exact this
 have hbig : layFrom S cs.length so.length d.length + 256 ≤ P * 256:=by
  simp [layBig] at e4
  exact e4
 have hfrom : r256 (4 * cs.length) + r256 d.length ≤ layFrom S cs.length so.length d.length:=by unfold layFrom; exact Nat.le_add_right _ _
 have hrl : ∀ r ∈ rs,RlFit (r256 (4 * cs.length)) (P * 256) r ∧ r256 (4 * cs.length) + r.at_ + 16 ≤ r256 (4 * cs.length) + d.length:=fun r hr => by
  obtain ⟨n,hn,rfl⟩:=List.getElem_of_mem hr
  unfold isBad at e5
  have hg:=List.any_eq_false.1 e5 n (List.mem_range.2 hn)
  have hrr : rl0 rs n = rs[n]:=by unfold rl0; rw [List.getD_eq_getElem?_getD,List.getElem?_eq_getElem hn]; rfl
  have hg2 : relRight (T : Int) cs.length d.length 0 (r256 (4 * cs.length)) (rs[n]) (behindN rs n) = true:=by
   rw [← hrr]
   simpa [relGood] using hg
  exact rl_fit (n2 _ hr) (by omega) l1 l2 r2 (by omega) (by omega) hg2
 exact ⟨P,S,T,rfl,rfl,rfl,⟨by omega,by omega,by omega,by omega,l1,fun x hx => by have:=hfar x hx; omega,n1,r1,rfl,r4,rfl,by omega⟩,⟨by omega,by omega,hS,by omega,by omega⟩,fun r hr => (hrl r hr).1,fun r hr => by have:=(hrl r hr).2; omega,by omega,hbig⟩
end Go.Proofs.Ytliidiceljdgmaa
namespace Go.Proofs.Ytliidiceljdgmaa
open Go.RowKit
open Sy
set_option maxRecDepth 100000
def wnL (v : Value) (hh hl : Sy.Heap) (p j : Nat) (zs : List UInt8) (f : Nat → Bool) (fl bl : List Cp) (c da ds sa ss ha hs : Nat) : Sy.Steps :=
 [(68,10,lcW,[]),(68,12,luCon v hh p zs f fl j,[64,65,66]),(75,8,btC v hl bl,[64,65,66]),(76,16,layG v hl c da ds sa ss ha hs,[64,65,66])]
def wnES (v : Value) (hh : Sy.Heap) (e : Int) : Sy.Steps:=[(68,10,lcW,[]),(69,16,layEH v hh e,[64,65,66]),(68,8,btEC v hh e,[64,65,66]),(69,8,btEC v hh e,[64,65,66]),(70,8,btEC v hh e,[64,65,66])]
def wnEM (v : Value) (hh : Sy.Heap) (e : Int) : Sy.Steps:=[(69,16,layEH v hh e,[64,65,66]),(68,8,btEC v hh e,[64,65,66]),(69,8,btEC v hh e,[64,65,66]),(70,8,btEC v hh e,[64,65,66])]
theorem wnf_a (p s t : Nat) (cs : List Nat) (d : List UInt8) (rs : List Rl) (so : List Nat) (j c da ds sa ss ha hs : Nat) (zs : List UInt8) (f : Nat → Bool) (fl bl : List Cp) (em : ∀ (q : Nat → Bool),(∀ (l : Nat),l < 67 → q l = true) → okV q 3 (Value.slice (some ⟨65,0,none⟩) rs.length (big + 65)) = true) (hb0 : ∀ (x : Cp),x ∈ bl → BtOk x ha hs) (hlen : bl.length ≤ 1000) (h1 : ha < 4294967296) (h2 : hs < 4294967296) (hb : ∀ (x : Cp),x ∈ bl → CpOk x) (hf : ∀ (x : Cp),x ∈ fl → RgOk bl x) (hj : fl.length = 17 * j) (hj4 : j ≤ 4) (hpc : ∀ (k : Nat),k < j → (cpK fl (17 * k + 16)).v = true ∧ ∃ y,y ∈ bl ∧ cpW (cpK fl (17 * k + 16)) y = true) (hp : p ≤ 1024) (hg : ∀ (g : Nat),g < p → PgOk zs f (p * 256) (nGran p) (nWord p) bl g) : obs (evF Try.prog (baseF 3 (selSteps (wnL (genJ p s t d (some ⟨65,0,none⟩) cs.length rs.length so.length (big+65)) (lqH cs rs so) (btH rs so) p j zs f fl bl c da ds sa ss ha hs)) noBase) (lpEsc [w0Ent j bl c da ds sa ss ha hs hb0 hlen h1 h2,w1Ent j fl bl hb hf hj hj4 hlen hpc,w3Ent j p s t cs.length so.length d em zs f (p * 256) (nGran p) (nWord p) bl hb hlen hp hg]) 100 20 6 [genJ p s t d (some ⟨65,0,none⟩) cs.length rs.length so.length (big+65)] ⟨67,lqH cs rs so,[],0,[],0,True⟩) = some (Value.bool true,((((((True∧True∧True∧True∧True)∧True∧(rr (Value.agg ⟨[.int .i64 (↑p),.int .i64 (↑s),.int .i64 (↑t),.slice (some ⟨64,0,none⟩) cs.length 9223372036854775872,.string ⟨⟨d⟩⟩,.slice (some ⟨65,0,none⟩) rs.length 9223372036854775873,.slice (some ⟨66,0,none⟩) so.length 9223372036854775874]⟩)∧True)∧((tt∧(u32s cs).all (okV (fun l => l.blt 67) 3) = true∧tt∧tt∧tt∧True∧u32s cs = List.map (rnV (lift 67 68 [64,65,66]) 3) (u32s cs))∧(tt∧(rels rs).all (okV (fun l => l.blt 67) 3) = true∧tt∧tt∧tt∧True∧rels rs = List.map (rnV (lift 67 68 [64,65,66]) 3) (rels rs))∧(tt∧(u32s so).all (okV (fun l => l.blt 67) 3) = true∧tt∧tt∧tt∧True∧u32s so = List.map (rnV (lift 67 68 [64,65,66]) 3) (u32s so))∧True)∧True)∧True∧(rr (Value.agg ⟨[.int .i64 (↑p),.int .i64 (↑s),.int .i64 (↑t),.slice (some ⟨64,0,none⟩) cs.length 9223372036854775872,.string ⟨⟨d⟩⟩,.slice (some ⟨65,0,none⟩) rs.length 9223372036854775873,.slice (some ⟨66,0,none⟩) so.length 9223372036854775874]⟩)∧True)∧((tt∧(rels rs).all (okV (fun l => l.blt 67) 3) = true∧tt∧tt∧tt∧True∧rels rs = List.map (rnV (lift 67 75 [64,65,66]) 3) (rels rs))∧(tt∧(u32s so).all (okV (fun l => l.blt 67) 3) = true∧tt∧tt∧tt∧True∧u32s so = List.map (rnV (lift 67 75 [64,65,66]) 3) (u32s so))∧True)∧True)∧True∧(rr (Value.agg ⟨[.int .i64 (↑p),.int .i64 (↑s),.int .i64 (↑t),.slice (some ⟨64,0,none⟩) cs.length 9223372036854775872,.string ⟨⟨d⟩⟩,.slice (some ⟨65,0,none⟩) rs.length 9223372036854775873,.slice (some ⟨66,0,none⟩) so.length 9223372036854775874]⟩)∧True)∧((tt∧(rels rs).all (okV (fun l => l.blt 67) 3) = true∧tt∧tt∧tt∧True∧rels rs = List.map (rnV (lift 67 76 [64,65,66]) 3) (rels rs))∧(tt∧(u32s so).all (okV (fun l => l.blt 67) 3) = true∧tt∧tt∧tt∧True∧u32s so = List.map (rnV (lift 67 76 [64,65,66]) 3) (u32s so))∧True)∧True)∧(rr (Value.pointer (some ⟨67,0,none⟩))∧rr (Value.bool false)∧rr (Value.pointer (some ⟨73,0,none⟩))∧rr (Value.slice (some ⟨74,0,none⟩) j 9223372036854775882)∧rr (Value.int .i64 0)∧rr (Value.slice (some ⟨75,0,none⟩) bl.length 9223372036854775883)∧rr (Value.int .i64 0)∧rr (Value.pointer (some ⟨76,0,none⟩))∧rr (Value.int .i64 0)∧rr (Value.int .i64 0)∧True)∧((tt∧tt∧True∧rr (cpL bl))∧(tt∧tt∧True∧rr [Value.int .u32 0,.int .u32 (↑c),.int .u32 (↑da),.int .u32 (↑ds),.int .u32 (↑sa),.int .u32 (↑ss),.int .u32 (↑ha),.int .u32 (↑hs)])∧True)∧True∧True)∧(rr (Value.pointer (some ⟨67,0,none⟩))∧rr (Value.bool false)∧rr (Value.pointer (some ⟨73,0,none⟩))∧rr (Value.slice (some ⟨74,0,none⟩) j 9223372036854775882)∧rr (Value.int .i64 0)∧rr (Value.slice (some ⟨75,0,none⟩) bl.length 9223372036854775883)∧rr (Value.int .i64 0)∧rr (Value.pointer (some ⟨76,0,none⟩))∧rr (Value.int .i64 0)∧rr (Value.int .i64 0)∧True)∧((tt∧tt∧True∧rr (cpL fl))∧(tt∧tt∧True∧rr (cpL bl))∧True)∧True∧True)∧(rr (Value.pointer (some ⟨67,0,none⟩))∧rr (Value.bool false)∧rr (Value.pointer (some ⟨73,0,none⟩))∧rr (Value.slice (some ⟨74,0,none⟩) j 9223372036854775882)∧rr (Value.int .i64 0)∧rr (Value.slice (some ⟨75,0,none⟩) bl.length 9223372036854775883)∧rr (Value.int .i64 0)∧rr (Value.pointer (some ⟨76,0,none⟩))∧rr (Value.int .i64 0)∧rr (Value.int .i64 0)∧True)∧((tt∧tt∧True∧rr [Value.pointer (some ⟨72,0,none⟩),.slice (some ⟨70,0,none⟩) (p * 256) 9223372036854775878])∧(tt∧tt∧True∧rr [Value.int .i64 (↑(nGran p)),.slice (some ⟨71,0,none⟩) (nWord p) 9223372036854775879])∧(tt∧tt∧True∧rr (v64 (wordsB f (nWord p))))∧(tt∧tt∧True∧rr (u8s zs))∧(tt∧tt∧True∧rr [Value.int .i64 (↑p),.int .i64 (↑s),.int .i64 (↑t),.slice (some ⟨64,0,none⟩) cs.length 9223372036854775872,.string ⟨⟨d⟩⟩,.slice (some ⟨65,0,none⟩) rs.length 9223372036854775873,.slice (some ⟨66,0,none⟩) so.length 9223372036854775874])∧(tt∧tt∧True∧rr (cpL bl))∧True)∧(nWord p ≤ nWord p∧p * 256 ≤ p * 256∧True)∧True):=by kernel_rfl
theorem wny_a (p s t : Nat) (cs : List Nat) (d : List UInt8) (a2 : Option Addr) (c2 : Nat) (so : List Nat) (j c da ds sa ss ha hs : Nat) (zs : List UInt8) (f : Nat → Bool) (fl bl : List Cp) (em : ∀ (q : Nat → Bool),(∀ (l : Nat),l < 67 → q l = true) → okV q 3 (Value.slice a2 0 c2) = true) (hb0 : ∀ (x : Cp),x ∈ bl → BtOk x ha hs) (hlen : bl.length ≤ 1000) (h1 : ha < 4294967296) (h2 : hs < 4294967296) (hb : ∀ (x : Cp),x ∈ bl → CpOk x) (hf : ∀ (x : Cp),x ∈ fl → RgOk bl x) (hj : fl.length = 17 * j) (hj4 : j ≤ 4) (hpc : ∀ (k : Nat),k < j → (cpK fl (17 * k + 16)).v = true ∧ ∃ y,y ∈ bl ∧ cpW (cpK fl (17 * k + 16)) y = true) (hp : p ≤ 1024) (hg : ∀ (g : Nat),g < p → PgOk zs f (p * 256) (nGran p) (nWord p) bl g) : obs (evF Try.prog (baseF 3 (selSteps (wnL (genJ p s t d a2 cs.length 0 so.length c2) (lqHY cs so) (btHY so) p j zs f fl bl c da ds sa ss ha hs)) noBase) (lpEsc [w0Ent j bl c da ds sa ss ha hs hb0 hlen h1 h2,w1Ent j fl bl hb hf hj hj4 hlen hpc,w3Ent j p s t cs.length so.length d em zs f (p * 256) (nGran p) (nWord p) bl hb hlen hp hg]) 100 20 6 [genJ p s t d a2 cs.length 0 so.length c2] ⟨67,lqHY cs so,[],0,[],0,True⟩) = some (Value.bool true,((((((True∧True∧True∧True∧True)∧True∧(Value.agg ⟨[.int .i64 (↑p),.int .i64 (↑s),.int .i64 (↑t),.slice (some ⟨64,0,none⟩) cs.length 9223372036854775872,.string ⟨⟨d⟩⟩,.slice a2 0 c2,.slice (some ⟨66,0,none⟩) so.length 9223372036854775874]⟩ = Value.agg ⟨[.int .i64 (↑p),.int .i64 (↑s),.int .i64 (↑t),.slice (some ⟨64,0,none⟩) cs.length 9223372036854775872,.string ⟨⟨d⟩⟩,.slice (Option.map (rnA (lift 67 68 [64,65,66])) a2) 0 (rnC (lift 67 68 [64,65,66]) c2),.slice (some ⟨66,0,none⟩) so.length 9223372036854775874]⟩∧True)∧((tt∧(u32s cs).all (okV (fun l => l.blt 67) 3) = true∧tt∧tt∧tt∧True∧u32s cs = List.map (rnV (lift 67 68 [64,65,66]) 3) (u32s cs))∧(tt∧(u32s so).all (okV (fun l => l.blt 67) 3) = true∧tt∧tt∧tt∧True∧u32s so = List.map (rnV (lift 67 68 [64,65,66]) 3) (u32s so))∧True)∧True)∧True∧(Value.agg ⟨[.int .i64 (↑p),.int .i64 (↑s),.int .i64 (↑t),.slice (some ⟨64,0,none⟩) cs.length 9223372036854775872,.string ⟨⟨d⟩⟩,.slice a2 0 c2,.slice (some ⟨66,0,none⟩) so.length 9223372036854775874]⟩ = Value.agg ⟨[.int .i64 (↑p),.int .i64 (↑s),.int .i64 (↑t),.slice (some ⟨64,0,none⟩) cs.length 9223372036854775872,.string ⟨⟨d⟩⟩,.slice (Option.map (rnA (lift 67 75 [64,65,66])) a2) 0 (rnC (lift 67 75 [64,65,66]) c2),.slice (some ⟨66,0,none⟩) so.length 9223372036854775874]⟩∧True)∧((tt∧(u32s so).all (okV (fun l => l.blt 67) 3) = true∧tt∧tt∧tt∧True∧u32s so = List.map (rnV (lift 67 75 [64,65,66]) 3) (u32s so))∧True)∧True)∧True∧(Value.agg ⟨[.int .i64 (↑p),.int .i64 (↑s),.int .i64 (↑t),.slice (some ⟨64,0,none⟩) cs.length 9223372036854775872,.string ⟨⟨d⟩⟩,.slice a2 0 c2,.slice (some ⟨66,0,none⟩) so.length 9223372036854775874]⟩ = Value.agg ⟨[.int .i64 (↑p),.int .i64 (↑s),.int .i64 (↑t),.slice (some ⟨64,0,none⟩) cs.length 9223372036854775872,.string ⟨⟨d⟩⟩,.slice (Option.map (rnA (lift 67 76 [64,65,66])) a2) 0 (rnC (lift 67 76 [64,65,66]) c2),.slice (some ⟨66,0,none⟩) so.length 9223372036854775874]⟩∧True)∧((tt∧(u32s so).all (okV (fun l => l.blt 67) 3) = true∧tt∧tt∧tt∧True∧u32s so = List.map (rnV (lift 67 76 [64,65,66]) 3) (u32s so))∧True)∧True)∧(rr (Value.pointer (some ⟨67,0,none⟩))∧rr (Value.bool false)∧rr (Value.pointer (some ⟨73,0,none⟩))∧rr (Value.slice (some ⟨74,0,none⟩) j 9223372036854775882)∧rr (Value.int .i64 0)∧rr (Value.slice (some ⟨75,0,none⟩) bl.length 9223372036854775883)∧rr (Value.int .i64 0)∧rr (Value.pointer (some ⟨76,0,none⟩))∧rr (Value.int .i64 0)∧rr (Value.int .i64 0)∧True)∧((tt∧tt∧True∧rr (cpL bl))∧(tt∧tt∧True∧rr [Value.int .u32 0,.int .u32 (↑c),.int .u32 (↑da),.int .u32 (↑ds),.int .u32 (↑sa),.int .u32 (↑ss),.int .u32 (↑ha),.int .u32 (↑hs)])∧True)∧True∧True)∧(rr (Value.pointer (some ⟨67,0,none⟩))∧rr (Value.bool false)∧rr (Value.pointer (some ⟨73,0,none⟩))∧rr (Value.slice (some ⟨74,0,none⟩) j 9223372036854775882)∧rr (Value.int .i64 0)∧rr (Value.slice (some ⟨75,0,none⟩) bl.length 9223372036854775883)∧rr (Value.int .i64 0)∧rr (Value.pointer (some ⟨76,0,none⟩))∧rr (Value.int .i64 0)∧rr (Value.int .i64 0)∧True)∧((tt∧tt∧True∧rr (cpL fl))∧(tt∧tt∧True∧rr (cpL bl))∧True)∧True∧True)∧(rr (Value.pointer (some ⟨67,0,none⟩))∧rr (Value.bool false)∧rr (Value.pointer (some ⟨73,0,none⟩))∧rr (Value.slice (some ⟨74,0,none⟩) j 9223372036854775882)∧rr (Value.int .i64 0)∧rr (Value.slice (some ⟨75,0,none⟩) bl.length 9223372036854775883)∧rr (Value.int .i64 0)∧rr (Value.pointer (some ⟨76,0,none⟩))∧rr (Value.int .i64 0)∧rr (Value.int .i64 0)∧True)∧((tt∧tt∧True∧rr [Value.pointer (some ⟨72,0,none⟩),.slice (some ⟨70,0,none⟩) (p * 256) 9223372036854775878])∧(tt∧tt∧True∧rr [Value.int .i64 (↑(nGran p)),.slice (some ⟨71,0,none⟩) (nWord p) 9223372036854775879])∧(tt∧tt∧True∧rr (v64 (wordsB f (nWord p))))∧(tt∧tt∧True∧rr (u8s zs))∧(tt∧tt∧True∧rr [Value.int .i64 (↑p),.int .i64 (↑s),.int .i64 (↑t),.slice (some ⟨64,0,none⟩) cs.length 9223372036854775872,.string ⟨⟨d⟩⟩,.slice a2 0 c2,.slice (some ⟨66,0,none⟩) so.length 9223372036854775874])∧(tt∧tt∧True∧rr (cpL bl))∧True)∧(nWord p ≤ nWord p∧p * 256 ≤ p * 256∧True)∧True):=by kernel_rfl
theorem wne_g (p s t e : Int) (d : List UInt8) (a1 a2 a3 : Option Addr) (n1 n2 n3 c1 c2 c3 : Nat) (hh : Heap) : obs (evF Try.prog (baseT 3 (selStepsT (wnEM (genI p s t d a1 a2 a3 n1 n2 n3 c1 c2 c3) hh e)) (baseC 3 selLbW)) noLoop 100 20 6 [genI p s t d a1 a2 a3 n1 n2 n3 c1 c2 c3] ⟨67,hh,[],0,[(0,false),(1,true),(2,true),(3,true),(4,true),(5,true),(6,true),(7,true),(8,true),(9,true),(10,true),(11,true),(12,true),(13,true)],0,True⟩) = some (Value.bool true,((((((((((((((((True∧True∧True∧True∧True)∧rr false)∧True∧rr [Value.agg ⟨[.int .i64 p,.int .i64 s,.int .i64 t,.slice a1 n1 c1,.string ⟨⟨d⟩⟩,.slice a2 n2 c2,.slice a3 n3 c3]⟩]∧hh = []∧True)∧(e != (0:Int)) = true)∧True∧rr [Value.agg ⟨[.int .i64 p,.int .i64 s,.int .i64 t,.slice a1 n1 c1,.string ⟨⟨d⟩⟩,.slice a2 n2 c2,.slice a3 n3 c3]⟩]∧hh = []∧True)∧(e != (0:Int)) = true)∧(e != (0:Int)) = true)∧(e != (0:Int)) = true)∧tt)∧(e == e) = true)∧(e == e) = true)∧(e == e) = true)∧(e == e) = true)∧tt)∧tt)∧tt)∧tt):=by kernel_rfl
theorem wne_f (p s t e : Int) (d : List UInt8) (nc : Nat) (rs : List Rl) (so : List Nat) : obs (evF Try.prog (baseF 3 (selSteps (wnES (genI p s t d (some ⟨64,0,none⟩) (some ⟨65,0,none⟩) (some ⟨66,0,none⟩) nc rs.length so.length (big+64) (big+65) (big+66)) (btH rs so) e)) noBase) noLoop 100 20 6 [genI p s t d (some ⟨64,0,none⟩) (some ⟨65,0,none⟩) (some ⟨66,0,none⟩) nc rs.length so.length (big+64) (big+65) (big+66)] ⟨67,btH rs so,[],0,[(0,false),(1,true),(2,true),(3,true),(4,true),(5,true),(6,true),(7,true),(8,true),(9,true),(10,true),(11,true),(12,true),(13,true)],0,True⟩) = some (Value.bool true,((((((((((((((((True∧True∧True∧True∧True)∧rr false)∧True∧(rr (Value.agg ⟨[.int .i64 p,.int .i64 s,.int .i64 t,.slice (some ⟨64,0,none⟩) nc 9223372036854775872,.string ⟨⟨d⟩⟩,.slice (some ⟨65,0,none⟩) rs.length 9223372036854775873,.slice (some ⟨66,0,none⟩) so.length 9223372036854775874]⟩)∧True)∧((tt∧(rels rs).all (okV (fun l => l.blt 67) 3) = true∧tt∧tt∧tt∧True∧rels rs = List.map (rnV (lift 67 69 [64,65,66]) 3) (rels rs))∧(tt∧(u32s so).all (okV (fun l => l.blt 67) 3) = true∧tt∧tt∧tt∧True∧u32s so = List.map (rnV (lift 67 69 [64,65,66]) 3) (u32s so))∧True)∧True)∧(e != (0:Int)) = true)∧True∧(rr (Value.agg ⟨[.int .i64 p,.int .i64 s,.int .i64 t,.slice (some ⟨64,0,none⟩) nc 9223372036854775872,.string ⟨⟨d⟩⟩,.slice (some ⟨65,0,none⟩) rs.length 9223372036854775873,.slice (some ⟨66,0,none⟩) so.length 9223372036854775874]⟩)∧True)∧((tt∧(rels rs).all (okV (fun l => l.blt 67) 3) = true∧tt∧tt∧tt∧True∧rels rs = List.map (rnV (lift 67 70 [64,65,66]) 3) (rels rs))∧(tt∧(u32s so).all (okV (fun l => l.blt 67) 3) = true∧tt∧tt∧tt∧True∧u32s so = List.map (rnV (lift 67 70 [64,65,66]) 3) (u32s so))∧True)∧True)∧(e != (0:Int)) = true)∧(e != (0:Int)) = true)∧(e != (0:Int)) = true)∧tt)∧(e == e) = true)∧(e == e) = true)∧(e == e) = true)∧(e == e) = true)∧tt)∧tt)∧tt)∧tt):=by kernel_rfl
theorem wne_y (p s t e : Int) (d : List UInt8) (a2 : Option Addr) (c2 nc : Nat) (so : List Nat) : obs (evF Try.prog (baseF 3 (selSteps (wnES (genI p s t d (some ⟨64,0,none⟩) a2 (some ⟨66,0,none⟩) nc 0 so.length (big+64) c2 (big+66)) (btHY so) e)) noBase) noLoop 100 20 6 [genI p s t d (some ⟨64,0,none⟩) a2 (some ⟨66,0,none⟩) nc 0 so.length (big+64) c2 (big+66)] ⟨67,btHY so,[],0,[(0,false),(1,true),(2,true),(3,true),(4,true),(5,true),(6,true),(7,true),(8,true),(9,true),(10,true),(11,true),(12,true),(13,true)],0,True⟩) = some (Value.bool true,((((((((((((((((True∧True∧True∧True∧True)∧rr false)∧True∧(Value.agg ⟨[.int .i64 p,.int .i64 s,.int .i64 t,.slice (some ⟨64,0,none⟩) nc 9223372036854775872,.string ⟨⟨d⟩⟩,.slice a2 0 c2,.slice (some ⟨66,0,none⟩) so.length 9223372036854775874]⟩ = Value.agg ⟨[.int .i64 p,.int .i64 s,.int .i64 t,.slice (some ⟨64,0,none⟩) nc 9223372036854775872,.string ⟨⟨d⟩⟩,.slice (Option.map (rnA (lift 67 69 [64,65,66])) a2) 0 (rnC (lift 67 69 [64,65,66]) c2),.slice (some ⟨66,0,none⟩) so.length 9223372036854775874]⟩∧True)∧((tt∧(u32s so).all (okV (fun l => l.blt 67) 3) = true∧tt∧tt∧tt∧True∧u32s so = List.map (rnV (lift 67 69 [64,65,66]) 3) (u32s so))∧True)∧True)∧(e != (0:Int)) = true)∧True∧(Value.agg ⟨[.int .i64 p,.int .i64 s,.int .i64 t,.slice (some ⟨64,0,none⟩) nc 9223372036854775872,.string ⟨⟨d⟩⟩,.slice a2 0 c2,.slice (some ⟨66,0,none⟩) so.length 9223372036854775874]⟩ = Value.agg ⟨[.int .i64 p,.int .i64 s,.int .i64 t,.slice (some ⟨64,0,none⟩) nc 9223372036854775872,.string ⟨⟨d⟩⟩,.slice (Option.map (rnA (lift 67 70 [64,65,66])) a2) 0 (rnC (lift 67 70 [64,65,66]) c2),.slice (some ⟨66,0,none⟩) so.length 9223372036854775874]⟩∧True)∧((tt∧(u32s so).all (okV (fun l => l.blt 67) 3) = true∧tt∧tt∧tt∧True∧u32s so = List.map (rnV (lift 67 70 [64,65,66]) 3) (u32s so))∧True)∧True)∧(e != (0:Int)) = true)∧(e != (0:Int)) = true)∧(e != (0:Int)) = true)∧tt)∧(e == e) = true)∧(e == e) = true)∧(e == e) = true)∧(e == e) = true)∧tt)∧tt)∧tt)∧tt):=by kernel_rfl
end Go.Proofs.Ytliidiceljdgmaa
namespace Go.Proofs.Ytliidiceljdgmaa
open Go.RowKit
open Sy
set_option maxRecDepth 100000
def tgE (g : Nat) (out : Value) (k : Nat) : List (Nat × Value):=[(0,.pointer (some ⟨67,0,none⟩)),(4,.slice none 0 0),(5,out),(6,.int .i64 (16 * g : Nat)),(20,.int .i64 (k : Nat))]
def tgN (g : Nat) (zs : List UInt8) (f : Nat → Bool) (N m n : Nat) (k : Nat) : Sf:=⟨68,tgE g (.slice none 0 0) k,arW false zs f N m n,arO N n⟩
def tgO (l : List Nat) : Sy.Blk:=⟨true,some (68,1),u32s l,none⟩
def tgY (g : Nat) (zs : List UInt8) (f : Nat → Bool) (N m n : Nat) (l : List Nat) (k : Nat) : Sf:=⟨69,tgE g (.slice (some ⟨68,0,none⟩) l.length (big + 68)) k,(68,tgO l) :: arW false zs f N m n,(68,l.length) :: arO N n⟩
theorem tgl_n0 (g : Nat) (zs : List UInt8) (f : Nat → Bool) (N : Nat) (m : Nat) (n : Nat) (k : Nat) : evC Try.prog (evF Try.prog (baseC 3 (selGt m n f)) noLoop 100 20) (noLoop 21) 41 100 (loopOf Try.prog 21 0) (Sf.frT 41 (tgN g zs f N m n k) [(0,true),(1,false)]) = some (Exit.normal,{ e:=[[Value.pointer (some ⟨67,0,none⟩),unk,unk,unk,.slice none 0 0,.slice none 0 0,.int .i64 (↑(16 * g)),.int .i64 (↑k),unk,unk,unk,unk,unk,unk,unk,unk],[unk,unk,unk,unk,.int .i64 (IntKind.i64.wrap ((↑k : Int) + (1 : Int))),.bool (decide ((↑k : Int) < (16 : Int))),.int .i64 (↑k),.pointer (some ⟨67,0,none⟩),.pointer (some ⟨67,0,none⟩),.pointer (some ⟨67,0,none⟩),.pointer (some ⟨66,0,none⟩),.int .i64 (↑(16 * g)),.int .i64 (↑k),.int .i64 (IntKind.i64.wrap ((↑(16 * g) : Int) + (↑k : Int))),.bool (f (IntKind.i64.wrap ((↑(16 * g) : Int) + (↑k : Int))).toNat),unk],[unk,unk,unk,unk,unk,unk,unk,.int .i64 (IntKind.i64.wrap ((↑k : Int) + (1 : Int))),unk,unk,unk,unk,unk,unk,unk,unk]],s:={ n:=68,h:=[(67,⟨false,none,[Value.pointer (some ⟨66,0,none⟩),.slice (some ⟨64,0,none⟩) N 9223372036854775872],none⟩),(66,⟨false,none,[Value.int .i64 (↑m),.slice (some ⟨65,0,none⟩) n 9223372036854775873],none⟩),(65,⟨false,some (65,1),v64 (wordsB f n),none⟩),(64,⟨false,some (64,1),u8s zs,none⟩)],lo:=[(65,n),(64,N)],esc:=0,T:=[],k:=2,O:=((True ∧ decide ((↑k : Int) < (16 : Int)) = true) ∧ ((0 : Int) ≤ IntKind.i64.wrap ((↑(16 * g) : Int) + (↑k : Int)) ∧ IntKind.i64.wrap ((↑(16 * g) : Int) + (↑k : Int)) < (↑m : Int)) ∧ (rr (Value.pointer (some ⟨66,0,none⟩)) ∧ rr (Value.int .i64 (IntKind.i64.wrap ((↑(16 * g) : Int) + (↑k : Int)))) ∧ True) ∧ ((tt ∧ tt ∧ tt ∧ tt ∧ tt ∧ True ∧ [Value.int .i64 (↑m),.slice (some ⟨65,0,none⟩) n 9223372036854775873] = [Value.int .i64 (↑m),.slice (some ⟨65,0,none⟩) (wordsB f n).length 9223372036854775873]) ∧ (tt ∧ (v64 (wordsB f n)).all (okV (fun l => l.blt 68) 3) = true ∧ tt ∧ tt ∧ tt ∧ True ∧ v64 (wordsB f n) = List.map (rnV (lift 68 68 [64,65,66,67]) 3) (v64 (wordsB f n))) ∧ True) ∧ (tt ∧ n ≤ n) ∧ True) ∧ f (IntKind.i64.wrap ((↑(16 * g) : Int) + (↑k : Int))).toNat = false : St } : Fr }):=by kernel_rfl
theorem tgl_n1 (g : Nat) (zs : List UInt8) (f : Nat → Bool) (N : Nat) (m : Nat) (n : Nat) (k : Nat) : evC Try.prog (evF Try.prog (baseC 3 (selGt m n f)) noLoop 100 20) (noLoop 21) 41 100 (loopOf Try.prog 21 0) (Sf.frT 41 (tgN g zs f N m n k) [(0,true),(1,true)]) = some (Exit.normal,{ e:=[[Value.pointer (some ⟨67,0,none⟩),unk,unk,unk,.slice none 0 0,.slice (some ⟨69,0,none⟩) 1 9223372036854775877,.int .i64 (↑(16 * g)),.int .i64 (↑k),unk,unk,unk,unk,unk,unk,unk,unk],[unk,unk,unk,unk,.int .i64 (IntKind.i64.wrap ((↑k : Int) + (1 : Int))),.bool (decide ((↑k : Int) < (16 : Int))),.int .i64 (↑k),.pointer (some ⟨67,0,none⟩),.pointer (some ⟨67,0,none⟩),.pointer (some ⟨67,0,none⟩),.pointer (some ⟨66,0,none⟩),.int .i64 (↑(16 * g)),.int .i64 (↑k),.int .i64 (IntKind.i64.wrap ((↑(16 * g) : Int) + (↑k : Int))),.bool (f (IntKind.i64.wrap ((↑(16 * g) : Int) + (↑k : Int))).toNat),.slice none 0 0],[Value.int .i64 (↑(16 * g)),.int .i64 (↑k),.int .i64 (IntKind.i64.wrap ((↑(16 * g) : Int) + (↑k : Int))),.int .i64 (IntKind.i64.wrap (IntKind.i64.wrap ((↑(16 * g) : Int) + (↑k : Int)) * (16 : Int))),.int .u32 (IntKind.u32.wrap (IntKind.i64.wrap (IntKind.i64.wrap ((↑(16 * g) : Int) + (↑k : Int)) * (16 : Int)))),.slice (some ⟨68,0,none⟩) 1 1,.slice (some ⟨69,0,none⟩) 1 9223372036854775877,.int .i64 (IntKind.i64.wrap ((↑k : Int) + (1 : Int))),unk,unk,unk,unk,unk,unk,unk,unk]],s:={ n:=70,h:=[(69,⟨true,some (69,1),[Value.int .u32 (IntKind.u32.wrap (IntKind.i64.wrap (IntKind.i64.wrap ((↑(16 * g) : Int) + (↑k : Int)) * (16 : Int))))],none⟩),(68,⟨true,none,[Value.int .u32 (IntKind.u32.wrap (IntKind.i64.wrap (IntKind.i64.wrap ((↑(16 * g) : Int) + (↑k : Int)) * (16 : Int))))],none⟩),(67,⟨false,none,[Value.pointer (some ⟨66,0,none⟩),.slice (some ⟨64,0,none⟩) N 9223372036854775872],none⟩),(66,⟨false,none,[Value.int .i64 (↑m),.slice (some ⟨65,0,none⟩) n 9223372036854775873],none⟩),(65,⟨false,some (65,1),v64 (wordsB f n),none⟩),(64,⟨false,some (64,1),u8s zs,none⟩)],lo:=[(69,1),(65,n),(64,N)],esc:=0,T:=[],k:=2,O:=((True ∧ decide ((↑k : Int) < (16 : Int)) = true) ∧ ((0 : Int) ≤ IntKind.i64.wrap ((↑(16 * g) : Int) + (↑k : Int)) ∧ IntKind.i64.wrap ((↑(16 * g) : Int) + (↑k : Int)) < (↑m : Int)) ∧ (rr (Value.pointer (some ⟨66,0,none⟩)) ∧ rr (Value.int .i64 (IntKind.i64.wrap ((↑(16 * g) : Int) + (↑k : Int)))) ∧ True) ∧ ((tt ∧ tt ∧ tt ∧ tt ∧ tt ∧ True ∧ [Value.int .i64 (↑m),.slice (some ⟨65,0,none⟩) n 9223372036854775873] = [Value.int .i64 (↑m),.slice (some ⟨65,0,none⟩) (wordsB f n).length 9223372036854775873]) ∧ (tt ∧ (v64 (wordsB f n)).all (okV (fun l => l.blt 68) 3) = true ∧ tt ∧ tt ∧ tt ∧ True ∧ v64 (wordsB f n) = List.map (rnV (lift 68 68 [64,65,66,67]) 3) (v64 (wordsB f n))) ∧ True) ∧ (tt ∧ n ≤ n) ∧ True) ∧ f (IntKind.i64.wrap ((↑(16 * g) : Int) + (↑k : Int))).toNat = true : St } : Fr }):=by kernel_rfl
theorem tgl_ne (g : Nat) (zs : List UInt8) (f : Nat → Bool) (N : Nat) (m : Nat) (n : Nat) (k : Nat) : evC Try.prog (evF Try.prog (baseC 3 (selGt m n f)) noLoop 100 20) (noLoop 21) 41 100 (loopOf Try.prog 21 0) (Sf.frT 41 (tgN g zs f N m n k) [(0,false)]) = some (Exit.exit 0,{ e:=[[Value.pointer (some ⟨67,0,none⟩),unk,unk,unk,.slice none 0 0,.slice none 0 0,.int .i64 (↑(16 * g)),unk,unk,unk,unk,unk,unk,unk,unk,unk],[unk,unk,unk,unk,.int .i64 (↑k),.bool (decide ((↑k : Int) < (16 : Int))),unk,unk,unk,unk,unk,unk,unk,unk,unk,unk],[unk,unk,unk,unk,unk,unk,unk,unk,unk,unk,unk,unk,unk,unk,unk,unk]],s:={ n:=68,h:=[(67,⟨false,none,[Value.pointer (some ⟨66,0,none⟩),.slice (some ⟨64,0,none⟩) N 9223372036854775872],none⟩),(66,⟨false,none,[Value.int .i64 (↑m),.slice (some ⟨65,0,none⟩) n 9223372036854775873],none⟩),(65,⟨false,some (65,1),v64 (wordsB f n),none⟩),(64,⟨false,some (64,1),u8s zs,none⟩)],lo:=[(65,n),(64,N)],esc:=0,T:=[],k:=1,O:=True ∧ decide ((↑k : Int) < (16 : Int)) = false : St } : Fr }):=by kernel_rfl
theorem tgl_y0 (g : Nat) (zs : List UInt8) (f : Nat → Bool) (N : Nat) (m : Nat) (n : Nat) (l : List Nat) (k : Nat) : evC Try.prog (evF Try.prog (baseC 3 (selGt m n f)) noLoop 100 20) (noLoop 21) 41 100 (loopOf Try.prog 21 0) (Sf.frT 41 (tgY g zs f N m n l k) [(0,true),(1,false)]) = some (Exit.normal,{ e:=[[Value.pointer (some ⟨67,0,none⟩),unk,unk,unk,.slice none 0 0,.slice (some ⟨68,0,none⟩) l.length 9223372036854775876,.int .i64 (↑(16 * g)),.int .i64 (↑k),unk,unk,unk,unk,unk,unk,unk,unk],[unk,unk,unk,unk,.int .i64 (IntKind.i64.wrap ((↑k : Int) + (1 : Int))),.bool (decide ((↑k : Int) < (16 : Int))),.int .i64 (↑k),.pointer (some ⟨67,0,none⟩),.pointer (some ⟨67,0,none⟩),.pointer (some ⟨67,0,none⟩),.pointer (some ⟨66,0,none⟩),.int .i64 (↑(16 * g)),.int .i64 (↑k),.int .i64 (IntKind.i64.wrap ((↑(16 * g) : Int) + (↑k : Int))),.bool (f (IntKind.i64.wrap ((↑(16 * g) : Int) + (↑k : Int))).toNat),unk],[unk,unk,unk,unk,unk,unk,unk,.int .i64 (IntKind.i64.wrap ((↑k : Int) + (1 : Int))),unk,unk,unk,unk,unk,unk,unk,unk]],s:={ n:=69,h:=[(68,⟨true,some (68,1),u32s l,none⟩),(67,⟨false,none,[Value.pointer (some ⟨66,0,none⟩),.slice (some ⟨64,0,none⟩) N 9223372036854775872],none⟩),(66,⟨false,none,[Value.int .i64 (↑m),.slice (some ⟨65,0,none⟩) n 9223372036854775873],none⟩),(65,⟨false,some (65,1),v64 (wordsB f n),none⟩),(64,⟨false,some (64,1),u8s zs,none⟩)],lo:=[(68,l.length),(65,n),(64,N)],esc:=0,T:=[],k:=2,O:=((True ∧ decide ((↑k : Int) < (16 : Int)) = true) ∧ ((0 : Int) ≤ IntKind.i64.wrap ((↑(16 * g) : Int) + (↑k : Int)) ∧ IntKind.i64.wrap ((↑(16 * g) : Int) + (↑k : Int)) < (↑m : Int)) ∧ (rr (Value.pointer (some ⟨66,0,none⟩)) ∧ rr (Value.int .i64 (IntKind.i64.wrap ((↑(16 * g) : Int) + (↑k : Int)))) ∧ True) ∧ ((tt ∧ tt ∧ tt ∧ tt ∧ tt ∧ True ∧ [Value.int .i64 (↑m),.slice (some ⟨65,0,none⟩) n 9223372036854775873] = [Value.int .i64 (↑m),.slice (some ⟨65,0,none⟩) (wordsB f n).length 9223372036854775873]) ∧ (tt ∧ (v64 (wordsB f n)).all (okV (fun l => l.blt 68) 3) = true ∧ tt ∧ tt ∧ tt ∧ True ∧ v64 (wordsB f n) = List.map (rnV (lift 68 69 [64,65,66,67]) 3) (v64 (wordsB f n))) ∧ True) ∧ (tt ∧ n ≤ n) ∧ True) ∧ f (IntKind.i64.wrap ((↑(16 * g) : Int) + (↑k : Int))).toNat = false : St } : Fr }):=by kernel_rfl
theorem tgl_y1 (g : Nat) (zs : List UInt8) (f : Nat → Bool) (N : Nat) (m : Nat) (n : Nat) (l : List Nat) (k : Nat) : evC Try.prog (evF Try.prog (baseC 3 (selGt m n f)) noLoop 100 20) (noLoop 21) 41 100 (loopOf Try.prog 21 0) (Sf.frT 41 (tgY g zs f N m n l k) [(0,true),(1,true)]) = some (Exit.normal,{ e:=[[Value.pointer (some ⟨67,0,none⟩),unk,unk,unk,.slice none 0 0,.slice (some ⟨70,0,none⟩) (l.length + 1) 9223372036854775878,.int .i64 (↑(16 * g)),.int .i64 (↑k),unk,unk,unk,unk,unk,unk,unk,unk],[unk,unk,unk,unk,.int .i64 (IntKind.i64.wrap ((↑k : Int) + (1 : Int))),.bool (decide ((↑k : Int) < (16 : Int))),.int .i64 (↑k),.pointer (some ⟨67,0,none⟩),.pointer (some ⟨67,0,none⟩),.pointer (some ⟨67,0,none⟩),.pointer (some ⟨66,0,none⟩),.int .i64 (↑(16 * g)),.int .i64 (↑k),.int .i64 (IntKind.i64.wrap ((↑(16 * g) : Int) + (↑k : Int))),.bool (f (IntKind.i64.wrap ((↑(16 * g) : Int) + (↑k : Int))).toNat),.slice (some ⟨68,0,none⟩) l.length 9223372036854775876],[Value.int .i64 (↑(16 * g)),.int .i64 (↑k),.int .i64 (IntKind.i64.wrap ((↑(16 * g) : Int) + (↑k : Int))),.int .i64 (IntKind.i64.wrap (IntKind.i64.wrap ((↑(16 * g) : Int) + (↑k : Int)) * (16 : Int))),.int .u32 (IntKind.u32.wrap (IntKind.i64.wrap (IntKind.i64.wrap ((↑(16 * g) : Int) + (↑k : Int)) * (16 : Int)))),.slice (some ⟨69,0,none⟩) 1 1,.slice (some ⟨70,0,none⟩) (l.length + 1) 9223372036854775878,.int .i64 (IntKind.i64.wrap ((↑k : Int) + (1 : Int))),unk,unk,unk,unk,unk,unk,unk,unk]],s:={ n:=71,h:=[(70,⟨true,some (70,1),u32s l ++ [Value.int .u32 (IntKind.u32.wrap (IntKind.i64.wrap (IntKind.i64.wrap ((↑(16 * g) : Int) + (↑k : Int)) * (16 : Int))))],none⟩),(69,⟨true,none,[Value.int .u32 (IntKind.u32.wrap (IntKind.i64.wrap (IntKind.i64.wrap ((↑(16 * g) : Int) + (↑k : Int)) * (16 : Int))))],none⟩),(67,⟨false,none,[Value.pointer (some ⟨66,0,none⟩),.slice (some ⟨64,0,none⟩) N 9223372036854775872],none⟩),(66,⟨false,none,[Value.int .i64 (↑m),.slice (some ⟨65,0,none⟩) n 9223372036854775873],none⟩),(65,⟨false,some (65,1),v64 (wordsB f n),none⟩),(64,⟨false,some (64,1),u8s zs,none⟩)],lo:=[(70,l.length + 1),(68,l.length),(65,n),(64,N)],esc:=0,T:=[],k:=2,O:=bif (lenT (u32s l)).beq (l.length * 1) then bif ((l.length + 1) * 4).ble 1099511627776 && (l.length + 1).blt 4611686018427387904 then ((True ∧ decide ((↑k : Int) < (16 : Int)) = true) ∧ ((0 : Int) ≤ IntKind.i64.wrap ((↑(16 * g) : Int) + (↑k : Int)) ∧ IntKind.i64.wrap ((↑(16 * g) : Int) + (↑k : Int)) < (↑m : Int)) ∧ (rr (Value.pointer (some ⟨66,0,none⟩)) ∧ rr (Value.int .i64 (IntKind.i64.wrap ((↑(16 * g) : Int) + (↑k : Int)))) ∧ True) ∧ ((tt ∧ tt ∧ tt ∧ tt ∧ tt ∧ True ∧ [Value.int .i64 (↑m),.slice (some ⟨65,0,none⟩) n 9223372036854775873] = [Value.int .i64 (↑m),.slice (some ⟨65,0,none⟩) (wordsB f n).length 9223372036854775873]) ∧ (tt ∧ (v64 (wordsB f n)).all (okV (fun l => l.blt 68) 3) = true ∧ tt ∧ tt ∧ tt ∧ True ∧ v64 (wordsB f n) = List.map (rnV (lift 68 69 [64,65,66,67]) 3) (v64 (wordsB f n))) ∧ True) ∧ (tt ∧ n ≤ n) ∧ True) ∧ f (IntKind.i64.wrap ((↑(16 * g) : Int) + (↑k : Int))).toNat = true else False else False : St } : Fr }):=by kernel_rfl
theorem tgl_ye (g : Nat) (zs : List UInt8) (f : Nat → Bool) (N : Nat) (m : Nat) (n : Nat) (l : List Nat) (k : Nat) : evC Try.prog (evF Try.prog (baseC 3 (selGt m n f)) noLoop 100 20) (noLoop 21) 41 100 (loopOf Try.prog 21 0) (Sf.frT 41 (tgY g zs f N m n l k) [(0,false)]) = some (Exit.exit 0,{ e:=[[Value.pointer (some ⟨67,0,none⟩),unk,unk,unk,.slice none 0 0,.slice (some ⟨68,0,none⟩) l.length 9223372036854775876,.int .i64 (↑(16 * g)),unk,unk,unk,unk,unk,unk,unk,unk,unk],[unk,unk,unk,unk,.int .i64 (↑k),.bool (decide ((↑k : Int) < (16 : Int))),unk,unk,unk,unk,unk,unk,unk,unk,unk,unk],[unk,unk,unk,unk,unk,unk,unk,unk,unk,unk,unk,unk,unk,unk,unk,unk]],s:={ n:=69,h:=[(68,⟨true,some (68,1),u32s l,none⟩),(67,⟨false,none,[Value.pointer (some ⟨66,0,none⟩),.slice (some ⟨64,0,none⟩) N 9223372036854775872],none⟩),(66,⟨false,none,[Value.int .i64 (↑m),.slice (some ⟨65,0,none⟩) n 9223372036854775873],none⟩),(65,⟨false,some (65,1),v64 (wordsB f n),none⟩),(64,⟨false,some (64,1),u8s zs,none⟩)],lo:=[(68,l.length),(65,n),(64,N)],esc:=0,T:=[],k:=1,O:=True ∧ decide ((↑k : Int) < (16 : Int)) = false : St } : Fr }):=by kernel_rfl
end Go.Proofs.Ytliidiceljdgmaa
namespace Go.Proofs.Ytliidiceljdgmaa
open Go.RowKit
open Sy
set_option maxRecDepth 100000
def tgK (f : Nat → Bool) (g : Nat) : Nat → List Nat
 | 0 => []
 | k + 1 => bif f (16 * g + k) then tgK f g k ++ [(16 * g + k) * 16] else tgK f g k
theorem tgK_len (f : Nat → Bool) (g : Nat) : ∀ k,(tgK f g k).length ≤ k
 | 0 => Nat.le_refl _
 | k + 1 => by
  have:=tgK_len f g k
  unfold tgK
  cases f (16 * g + k)
  ·show (tgK f g k).length ≤ k + 1; omega
  ·show (tgK f g k ++ [_]).length ≤ k + 1; rw [List.length_append]; simp; omega
theorem tgK_mem (f : Nat → Bool) (g a : Nat) : ∀ k,a ∈ tgK f g k → ∃ i,i < k ∧ f (16 * g + i) = true ∧ a = (16 * g + i) * 16
 | 0,h => by cases h
 | k + 1,h => by
  unfold tgK at h
  cases hf : f (16 * g + k) <;> rw [hf] at h
  ·obtain ⟨i,h1,h2,h3⟩:=tgK_mem f g a k h
   exact ⟨i,by omega,h2,h3⟩
  ·rcases List.mem_append.1 (show a ∈ tgK f g k ++ [(16 * g + k) * 16] from h) with h | h
   ·obtain ⟨i,h1,h2,h3⟩:=tgK_mem f g a k h
    exact ⟨i,by omega,h2,h3⟩
   ·obtain rfl:=List.mem_singleton.1 h
    exact ⟨k,by omega,hf,rfl⟩
def tgS (g : Nat) (zs : List UInt8) (f : Nat → Bool) (N m n : Nat) : List Nat → Nat → Sf
 | [],k => tgN g zs f N m n k
 | x :: l,k => tgY g zs f N m n (x :: l) k
def tgP (l : List Nat) : Sy.Blk:=⟨true,some (69,1),u32s l,none⟩
def tgF : List Nat → Sf
 | [] => ⟨68,[(5,.slice none 0 0)],[],[]⟩
 | x :: l => ⟨70,[(5,.slice (some ⟨69,0,none⟩) (x :: l).length (big + 69))],[(69,tgP (x :: l))],[(69,(x :: l).length)]⟩
theorem tgS_y (g : Nat) (zs : List UInt8) (f : Nat → Bool) (N m n : Nat) (l : List Nat) (k : Nat) (h : l ≠ []) : tgS g zs f N m n l k = tgY g zs f N m n l k:=by
 cases l with
 | nil => exact absurd rfl h
 | cons x l => rfl
theorem u32s_snoc (l : List Nat) (x : Nat) : u32s l ++ [Value.int .u32 (x : Int)] = u32s (l ++ [x]):=by simp [u32s]
theorem tgF_ok (l : List Nat) (a : Nat) (ha : a ≤ 69) (σ : Nat → Nat) (p : Nat → Bool) : (tgF l).Ok (keeps a (tgF l).n σ p):=by
 cases l with
 | nil => exact Sf.Ok.mk' 3 trivial rfl (fun x hx => by obtain rfl:=List.mem_singleton.1 hx; rfl)
 | cons x l =>
  have hq : keeps a 70 σ p 69 = true:=by
   show (Nat.blt 69 NG || (bif Nat.blt 69 a then (Nat.beq (σ 69) 69 && p 69) else Nat.blt 69 70)) = true
   rw [blt_no (show a ≤ 69 from ha)]; rfl
  refine Sf.Ok.mk' 3 ⟨⟨hq,hq,flat_bnd (u32s_flat _)⟩,trivial⟩ (by show (keeps a 70 σ p 69 && true) = true; rw [hq]; rfl) (fun y hy => ?_)
  obtain rfl:=List.mem_singleton.1 hy
  show okV (keeps a 70 σ p) 3 (.slice (some ⟨69,0,none⟩) (x :: l).length (big + 69)) = true
  simp [okV,bndA,hq,big]
theorem tgS_wf (g : Nat) (zs : List UInt8) (f : Nat → Bool) (N m n : Nat) (l : List Nat) (k : Nat) : (tgS g zs f N m n l k).Wf:=by
 cases l with
 | nil => exact ⟨by show 64 ≤ 68; omega,Sf.Ok.mk' 3 (arW_okH lt68 false zs f N m n) rfl (fun x hx => by
   simp only [rr, tt, tgS,tgN,tgE,List.mem_cons,List.not_mem_nil,or_false] at hx
   rcases hx with rfl | rfl | rfl | rfl | rfl <;> rfl)⟩
 | cons x l => exact ⟨by show 64 ≤ 69; omega,Sf.Ok.mk' 3 ⟨⟨rfl,rfl,flat_bnd (u32s_flat _)⟩,arW_okH (fun l hl => by show Nat.blt l 69 = true; exact blt_yes (by omega)) false zs f N m n⟩ rfl (fun x hx => by
   simp only [rr, tt, tgS,tgY,tgE,List.mem_cons,List.not_mem_nil,or_false] at hx
   rcases hx with rfl | rfl | rfl | rfl | rfl <;> rfl)⟩
theorem arW_seenR {h1 : Sy.Heap} {p : Nat → Bool} {σ : Nat → Nat} (hp : ∀ l,l < 68 → p l = true) (hs : ∀ l,l < 68 → σ l = l) (zs : List UInt8) (f : Nat → Bool) (N m n : Nat) (h67 : Sy.look h1 67 = some ⟨false,none,[.pointer (some ⟨66,0,none⟩),.slice (some ⟨64,0,none⟩) N (big + 64)],none⟩) (h66 : Sy.look h1 66 = some ⟨false,none,[.int .i64 (m : Nat),.slice (some ⟨65,0,none⟩) n (big + 65)],none⟩)
  (h65 : Sy.look h1 65 = some ⟨false,some (65,1),v64 (wordsB f n),none⟩) (h64 : Sy.look h1 64 = some ⟨false,some (64,1),u8s zs,none⟩) : SeenH 3 p σ h1 (arW false zs f N m n):=by
 have hr : ∀ l : List Value,(∀ w ∈ l,okV (fun l => Nat.blt l 68) 3 w = true) → l.map (rnV σ 3) = l:=fun l hl => by
  rw [List.map_congr_left (g:=id) (fun w hw => rnV_on (p:=fun l => Nat.blt l 68) (fun l hl => hs l (by simpa using hl)) 3 w (hl w hw))]
  simp
 have hc:=arL_cell (q:=fun l => Nat.blt l 68) lt68 N m n
 have hcp:=arL_cell (q:=p) hp N m n
 refine ⟨⟨hp 67 (by omega),List.all_eq_true.2 hcp.1,rfl,?_⟩,⟨hp 66 (by omega),List.all_eq_true.2 hcp.2,rfl,?_⟩,⟨hp 65 (by omega),flat_all (v64_flat _),hp 65 (by omega),?_⟩,⟨hp 64 (by omega),flat_all (u8s_flatA zs),hp 64 (by omega),?_⟩,trivial⟩
 ·show match Sy.look h1 (σ 67) with | none => False | some k1 => _
  rw [hs 67 (by omega),h67]; exact ⟨rfl,rfl,trivial,(hr _ hc.1).symm⟩
 ·show match Sy.look h1 (σ 66) with | none => False | some k1 => _
  rw [hs 66 (by omega),h66]; exact ⟨rfl,rfl,trivial,(hr _ hc.2).symm⟩
 ·show match Sy.look h1 (σ 65) with | none => False | some k1 => _
  rw [hs 65 (by omega),h65]
  refine ⟨rfl,?_,trivial,(flat_map (v64_flat _)).symm⟩
  show (opB (some (65,1)) (some (σ 65,1)) || _) = true
  rw [hs 65 (by omega)]; rfl
 ·show match Sy.look h1 (σ 64) with | none => False | some k1 => _
  rw [hs 64 (by omega),h64]
  refine ⟨rfl,?_,trivial,(flat_map (u8s_flatA _)).symm⟩
  show (opB (some (64,1)) (some (σ 64,1)) || _) = true
  rw [hs 64 (by omega)]; rfl
theorem u32s_len' (l : List Nat) : (u32s l).length = l.length:=by simp [u32s]
theorem tg_loop (g : Nat) (zs : List UInt8) (f : Nat → Bool) (N m n : Nat) (h : ArOk zs N m n) (hg : (g + 1) * 256 ≤ N) :
  ∀ k : { k : Nat // k ≤ 16 },LoopOk Try.prog 41 (loopOf Try.prog 21 0) ((tgS g zs f N m n (tgK f g k.1) k.1).fr 41) (.exit 0) ((tgF (tgK f g 16)).fr 41):=by
 obtain ⟨hl,h1,h2,h3,h4⟩:=h
 have v1 : ∀ (σ : Nat → Nat),(v64 (wordsB f n)).map (rnV σ 3) = v64 (wordsB f n):=fun σ => flat_map (v64_flat _)
 have v2 : ∀ (p : Nat → Bool),(v64 (wordsB f n)).all (okV p 3) = true:=fun p => flat_all (v64_flat _)
 refine loop_okC (L:=100) (noLoop_any _ _ 21) (fun _ h => h) (X:={ k : Nat // k ≤ 16 }) (fun k => tgS g zs f N m n (tgK f g k.1) k.1) (fun _ => tgF (tgK f g 16)) (fun _ => .exit 0) (fun k => 16 - k.1) (fun k => tgS_wf _ _ _ _ _ _ _ _) ?_
 rintro ⟨k,hk⟩
 have hbase:=run_ok (L:=100) ar_names (baseC_ok (selGt_ok m n f h2 h3)) (noLoop_ok _) 20
 have hroW : ∀ (σ : Nat → Nat),(∀ l,l < 68 → σ l = l) → ∀ y ∈ arW false zs f N m n,σ y.1 = y.1:=fun σ hσ y hy => by
  simp only [rr, tt, arW,List.mem_cons,List.not_mem_nil,or_false] at hy
  rcases hy with rfl | rfl | rfl | rfl
  ·exact hσ 67 (by omega)
  ·exact hσ 66 (by omega)
  ·exact hσ 65 (by omega)
  ·exact hσ 64 (by omega)
 by_cases hlt : k < 16
 ·have e1 : IntKind.i64.wrap (((16 * g : Nat) : Int) + (k : Int)) = ((16 * g + k : Nat) : Int):=by rw [a_add,w64A _ (by omega)]
  have e2 : IntKind.u32.wrap (IntKind.i64.wrap (((16 * g + k : Nat) : Int) * (16 : Int))) = (((16 * g + k) * 16 : Nat) : Int):=by rw [show ((16 * g + k : Nat) : Int) * (16 : Int) = (((16 * g + k) * 16 : Nat) : Int) by omega,w64A _ (by omega),w32A _ (by omega)]
  have e5 : IntKind.i64.wrap ((k : Int) + (1 : Int)) = ((k + 1 : Nat) : Int):=cast_succ_i64 k (by omega)
  have b1 : (0 : Int) ≤ ((16 * g + k : Nat) : Int):=by omega
  have b2 : ((16 * g + k : Nat) : Int) < (m : Int):=by omega
  have d1 : decide ((k : Int) < (16 : Int)) = true:=decide_eq_true (by omega)
  have hlen:=tgK_len f g k
  by_cases hL : tgK f g k = []
  ·have hI : tgS g zs f N m n (tgK f g k) k = tgN g zs f N m n k:=by rw [hL]; rfl
   show ∃ call T e g' d p σ,SoundCall Try.prog call ∧ evC Try.prog call _ 41 100 _ (Sf.frT 41 (tgS g zs f N m n (tgK f g k) k) T) = some (e,g') ∧ _
   rw [hI]
   cases hf : f (16 * g + k)
   ·have hnext : tgK f g (k + 1) = []:=by unfold tgK; rw [hf,hL]; rfl
    have hr:=tgl_n0 g zs f N m n k
    simp only [rr, tt, e1,e2,e5,Int.toNat_natCast] at hr
    refine ⟨_,_,.normal,_,3,fun l => Nat.blt l 68,id,hbase,hr,?_,.inl ⟨rfl,⟨k + 1,by omega⟩,by show 16 - (k + 1) < 16 - k; omega,rfl,rfl,?_⟩⟩
    ·simp only [rr, tt, b1,b2,d1,hf,v1,v2,wordsB_len,and_true,true_and,and_self,Nat.le_refl]
    ·show Sf.Leads 3 _ _ _ _ (tgS g zs f N m n (tgK f g (k + 1)) (k + 1)) _
     rw [hnext]
     exact ⟨fun _ _ => rfl,arW_seenR lt68 (fun _ _ => rfl) zs f N m n rfl rfl rfl rfl,rfl,⟨⟨rfl,Nat.le_refl _⟩,⟨rfl,Nat.le_refl _⟩,trivial⟩,⟨⟨by kernel_rfl,by kernel_rfl⟩,⟨by kernel_rfl,by kernel_rfl⟩,⟨by kernel_rfl,by kernel_rfl⟩,⟨by kernel_rfl,by kernel_rfl⟩,⟨by kernel_rfl,by kernel_rfl⟩,trivial⟩,Nat.le_refl _,fun l hl => blt_no hl,tgF_ok _ _ (by show 68 ≤ 69; omega) _ _,fun x _ _ => .inl rfl⟩
   ·have hnext : tgK f g (k + 1) = [(16 * g + k) * 16]:=by unfold tgK; rw [hf,hL]; rfl
    have hr:=tgl_n1 g zs f N m n k
    simp only [rr, tt, e1,e2,e5,Int.toNat_natCast] at hr
    refine ⟨_,_,.normal,_,3,fun l => Nat.blt l 69,toσ 68 69,hbase,hr,?_,.inl ⟨rfl,⟨k + 1,by omega⟩,by show 16 - (k + 1) < 16 - k; omega,rfl,rfl,?_⟩⟩
    ·simp only [rr, tt, b1,b2,d1,hf,v1,v2,wordsB_len,and_true,true_and,and_self,Nat.le_refl]
    ·show Sf.Leads 3 _ _ _ _ (tgS g zs f N m n (tgK f g (k + 1)) (k + 1)) _
     rw [hnext]
     refine ⟨fun l hl => if_neg (by have : NG = 64:=rfl; omega),⟨⟨rfl,flat_all (u32s_flat _),rfl,?_⟩,arW_seenR (fun l hl => by show Nat.blt l 69 = true; exact blt_yes (by omega)) (fun l hl => if_neg (by omega)) zs f N m n rfl rfl rfl rfl⟩,rfl,⟨⟨rfl,?_⟩,⟨rfl,Nat.le_refl _⟩,⟨rfl,Nat.le_refl _⟩,trivial⟩,?_,by show 68 ≤ 69; omega,fun l hl => blt_no hl,tgF_ok _ _ (by show 68 ≤ 69; omega) _ _,fun y hy hrw => ?_⟩
     ·exact ⟨rfl,rfl,trivial,by show _ = List.map _ (u32s _); rw [flat_map (u32s_flat _)]; try rfl⟩
     ·exact Nat.le_refl _
     ·exact ⟨⟨by kernel_rfl,by kernel_rfl⟩,⟨by kernel_rfl,by kernel_rfl⟩,⟨by kernel_rfl,by kernel_rfl⟩,⟨by kernel_rfl,by kernel_rfl⟩,⟨by kernel_rfl,by kernel_rfl⟩,trivial⟩
     ·rcases List.mem_cons.1 hy with rfl | hy
      ·cases hrw
      ·left; exact hroW (toσ 68 69) (fun l hl => if_neg (by omega)) y hy
  ·have hI : tgS g zs f N m n (tgK f g k) k = tgY g zs f N m n (tgK f g k) k:=tgS_y _ _ _ _ _ _ _ _ hL
   show ∃ call T e g' d p σ,SoundCall Try.prog call ∧ evC Try.prog call _ 41 100 _ (Sf.frT 41 (tgS g zs f N m n (tgK f g k) k) T) = some (e,g') ∧ _
   rw [hI]
   cases hf : f (16 * g + k)
   ·have hnext : tgK f g (k + 1) = tgK f g k:=by show (bif f (16 * g + k) then _ else _) = _; rw [hf]; rfl
    have hr:=tgl_y0 g zs f N m n (tgK f g k) k
    simp only [rr, tt, e1,e2,e5,Int.toNat_natCast] at hr
    refine ⟨_,_,.normal,_,3,fun l => Nat.blt l 69,toσ 68 68,hbase,hr,?_,.inl ⟨rfl,⟨k + 1,by omega⟩,by show 16 - (k + 1) < 16 - k; omega,rfl,rfl,?_⟩⟩
    ·simp only [rr, tt, b1,b2,d1,hf,v1,v2,wordsB_len,and_true,true_and,and_self,Nat.le_refl]
    ·show Sf.Leads 3 _ _ _ _ (tgS g zs f N m n (tgK f g (k + 1)) (k + 1)) _
     rw [hnext,tgS_y _ _ _ _ _ _ _ _ hL]
     refine ⟨fun l hl => if_neg (by have : NG = 64:=rfl; omega),⟨⟨rfl,flat_all (u32s_flat _),rfl,?_⟩,arW_seenR (fun l hl => by show Nat.blt l 69 = true; exact blt_yes (by omega)) (fun l hl => if_neg (by omega)) zs f N m n rfl rfl rfl rfl⟩,rfl,⟨⟨rfl,?_⟩,⟨rfl,Nat.le_refl _⟩,⟨rfl,Nat.le_refl _⟩,trivial⟩,?_,by show 69 ≤ 69; omega,fun l hl => blt_no hl,tgF_ok _ _ (by show 69 ≤ 69; omega) _ _,fun y hy hrw => ?_⟩
     ·exact ⟨rfl,rfl,trivial,by show _ = List.map _ (u32s _); rw [flat_map (u32s_flat _)]; try rfl⟩
     ·exact Nat.le_refl _
     ·exact ⟨⟨by kernel_rfl,by kernel_rfl⟩,⟨by kernel_rfl,by kernel_rfl⟩,⟨by kernel_rfl,by kernel_rfl⟩,⟨by kernel_rfl,by kernel_rfl⟩,⟨by kernel_rfl,by kernel_rfl⟩,trivial⟩
     ·rcases List.mem_cons.1 hy with rfl | hy
      ·cases hrw
      ·left; exact hroW (toσ 68 68) (fun l hl => if_neg (by omega)) y hy
   ·have hnext : tgK f g (k + 1) = tgK f g k ++ [(16 * g + k) * 16]:=by show (bif f (16 * g + k) then _ else _) = _; rw [hf]; rfl
    have hr:=tgl_y1 g zs f N m n (tgK f g k) k
    simp only [rr, tt, e1,e2,e5,Int.toNat_natCast,u32s_snoc] at hr
    have hn1 : (tgK f g k).length + 1 = (tgK f g k ++ [(16 * g + k) * 16]).length:=by rw [List.length_append]; rfl
    refine ⟨_,_,.normal,_,3,fun l => Nat.blt l 69,toσ 68 70,hbase,hr,?_,.inl ⟨rfl,⟨k + 1,by omega⟩,by show 16 - (k + 1) < 16 - k; omega,rfl,rfl,?_⟩⟩
    ·show cond _ _ _
     rw [lenT_eq,u32s_len',Nat.mul_one,Nat.beq_refl]
     show cond _ _ _
     rw [Nat.ble_eq_true_of_le (by omega),blt_yes (by omega)]
     simp only [rr, tt, b1,b2,d1,hf,v1,v2,wordsB_len,Bool.and_self,cond_true,and_true,true_and,and_self,Nat.le_refl]
    ·show Sf.Leads 3 _ _ _ _ (tgS g zs f N m n (tgK f g (k + 1)) (k + 1)) _
     rw [hnext,tgS_y _ _ _ _ _ _ _ _ (by simp)]
     refine ⟨fun l hl => if_neg (by have : NG = 64:=rfl; omega),⟨⟨rfl,flat_all (u32s_flat _),rfl,?_⟩,arW_seenR (fun l hl => by show Nat.blt l 69 = true; exact blt_yes (by omega)) (fun l hl => if_neg (by omega)) zs f N m n rfl rfl rfl rfl⟩,rfl,⟨⟨rfl,?_⟩,⟨rfl,Nat.le_refl _⟩,⟨rfl,Nat.le_refl _⟩,trivial⟩,?_,by show 69 ≤ 69; omega,fun l hl => blt_no hl,tgF_ok _ _ (by show 69 ≤ 69; omega) _ _,fun y hy hrw => ?_⟩
     ·exact ⟨rfl,rfl,trivial,by show _ = List.map _ (u32s _); rw [flat_map (u32s_flat _)]; try rfl⟩
     ·exact Nat.le_of_eq hn1.symm
     ·rw [hn1]; exact ⟨⟨by kernel_rfl,by kernel_rfl⟩,⟨by kernel_rfl,by kernel_rfl⟩,⟨by kernel_rfl,by kernel_rfl⟩,⟨by kernel_rfl,by kernel_rfl⟩,⟨by kernel_rfl,by kernel_rfl⟩,trivial⟩
     ·rcases List.mem_cons.1 hy with rfl | hy
      ·cases hrw
      ·left; exact hroW (toσ 68 70) (fun l hl => if_neg (by omega)) y hy
 ·have hkk : k = 16:=by omega
  subst hkk
  show ∃ call T e g' d p σ,SoundCall Try.prog call ∧ evC Try.prog call _ 41 100 _ (Sf.frT 41 (tgS g zs f N m n (tgK f g 16) 16) T) = some (e,g') ∧ g'.s.O ∧ (_ ∨ (e ≠ .normal ∧ e = .exit 0 ∧ Sf.Leads d p σ (tgS g zs f N m n (tgK f g 16) 16) g' (tgF (tgK f g 16)) (tgF (tgK f g 16))))
  generalize tgK f g 16 = L
  cases L with
  | nil =>
   have hr:=tgl_ne g zs f N m n 16
   exact ⟨_,_,.exit 0,_,3,fun l => Nat.blt l 68,id,hbase,hr,⟨trivial,rfl⟩,.inr ⟨by simp,rfl,⟨fun _ _ => rfl,trivial,rfl,trivial,⟨⟨by kernel_rfl,by kernel_rfl⟩,trivial⟩,Nat.le_refl _,fun l hl => blt_no hl,tgF_ok _ _ (by show 68 ≤ 69; omega) _ _,fun x hx => by cases hx⟩⟩⟩
  | cons x l =>
   have hr:=tgl_ye g zs f N m n (x :: l) 16
   refine ⟨_,_,.exit 0,_,3,fun l => Nat.blt l 70,toσ 69 68,hbase,hr,⟨trivial,rfl⟩,.inr ⟨by simp,rfl,⟨fun l hl => if_neg (by have : NG = 64:=rfl; omega),⟨⟨rfl,flat_all (u32s_flat _),rfl,?_⟩,trivial⟩,rfl,⟨⟨rfl,Nat.le_refl _⟩,trivial⟩,⟨⟨by kernel_rfl,by kernel_rfl⟩,trivial⟩,by show 69 ≤ 70; omega,fun l hl => blt_no hl,tgF_ok _ _ (by show 69 ≤ 69; omega) _ _,fun y hy hrw => ?_⟩⟩⟩
   ·exact ⟨rfl,rfl,trivial,(flat_map (u32s_flat _)).symm⟩
   ·obtain rfl:=List.mem_singleton.1 hy; cases hrw
def tgFy (tl : List Nat) : Sf:=⟨70,[(5,.slice (some ⟨69,0,none⟩) tl.length (big + 69))],[(69,tgP tl)],[(69,tl.length)]⟩
def tgEnt (g : Nat) (zs : List UInt8) (f : Nat → Bool) (N m n : Nat) (tl : List Nat) (h : ArOk zs N m n) (hg : (g + 1) * 256 ≤ N) (ht : tgK f g 16 = tl) (hne : tl ≠ []) : Ent Try.prog :=
 entC Try.prog 21 0 41 (tgN g zs f N m n 0) (.exit 0) (tgFy tl) (by kernel_rfl) (by kernel_rfl) (by
  have:=tg_loop g zs f N m n h hg ⟨0,by omega⟩
  have e : tgF (tgK f g 16) = tgFy tl:=by
   rw [ht]
   cases tl with
   | nil => exact absurd rfl hne
   | cons x l => rfl
  rw [e] at this
  exact this)
theorem tg_y (g : Nat) (zs : List UInt8) (f : Nat → Bool) (N m n : Nat) (tl : List Nat) (h : ArOk zs N m n) (hg : (g + 1) * 256 ≤ N) (ht : tgK f g 16 = tl) (hne : tl ≠ []) : evF Try.prog noBase (lpEsc [tgEnt g zs f N m n tl h hg ht hne]) 100 40 21 [Value.pointer (some ⟨67,0,none⟩),.int .i64 (↑g)] ⟨68,arW false zs f N m n,arO N n,0,[(13,false)],0,True⟩ = some (Value.slice (some ⟨69,0,none⟩) tl.length 9223372036854775877,{ n:=70,h:=[(69,⟨true,some (69,1),u32s tl,none⟩),(67,⟨false,none,[Value.pointer (some ⟨66,0,none⟩),.slice (some ⟨64,0,none⟩) N 9223372036854775872],none⟩),(66,⟨false,none,[Value.int .i64 (↑m),.slice (some ⟨65,0,none⟩) n 9223372036854775873],none⟩),(65,⟨false,some (65,1),v64 (wordsB f n),none⟩),(64,⟨false,some (64,1),u8s zs,none⟩)],lo:=[(69,tl.length),(65,n),(64,N)],esc:=0,T:=[],k:=14,O:=(True∧decide ((↑g:Int) ≥ IntKind.i64.wrap ((↑N:Int).tdiv (256:Int))) = false)∧(rr (Value.pointer (some ⟨67,0,none⟩))∧rr (Value.slice none 0 0)∧rr (Value.slice none 0 0)∧Value.int .i64 (IntKind.i64.wrap ((IntKind.i64.wrap ((↑g:Int) * (256:Int))).tdiv (16:Int))) = Value.int .i64 (↑(16 * g))∧rr (Value.int .i64 0)∧True)∧((tt∧tt∧True∧rr [Value.pointer (some ⟨66,0,none⟩),.slice (some ⟨64,0,none⟩) N 9223372036854775872])∧(tt∧tt∧True∧rr [Value.int .i64 (↑m),.slice (some ⟨65,0,none⟩) n 9223372036854775873])∧(tt∧tt∧True∧rr (v64 (wordsB f n)))∧(tt∧tt∧True∧rr (u8s zs))∧True)∧(n ≤ n∧N ≤ N∧True)∧True : St }):=by kernel_rfl
end Go.Proofs.Ytliidiceljdgmaa
namespace Go.Proofs.Ytliidiceljdgmaa
open Go.RowKit
open Sy
set_option maxRecDepth 100000
def sndY (sn : Int → Int → Int → Int → Int → Int → Bool) (c e b t p y r : Int) (v : Bool) : Con:=Con.pure [capZ c e b t p y r v] (.bool (sn e b t p y r))
def selSn (sn : Int → Int → Int → Int → Int → Int → Bool) : SelC:=fun f args _ => bif Nat.beq f 64 then
 match args with
 | [.agg ⟨[.int .u32 c,.int .u8 e,.int .u16 b,.int .u16 t,.int .u16 p,.int .u16 y,.int .u32 r,.bool v]⟩] => some (sndY sn c e b t p y r v,[],capHyp c e b t p y r)
 | _ => none
 else none
def lcpL (g : Nat) (l : List UInt8) (k : Bool) (v : Value) (m n : Nat) (f : Nat → Bool) : Sy.Steps:=[(70,43,gtD (g : Nat) m n f,[64,65,66,67]),(69,43,gtD (g : Nat) m n f,[64,65,66,67]),(70,42,Con.pure [.string ⟨⟨l⟩⟩,.bool k] v,[]),(69,42,Con.pure [.string ⟨⟨l⟩⟩,.bool k] v,[])]
theorem of_t (b0 b1 b2 b3 b4 b5 b6 b7 b8 b9 b10 b11 b12 b13 b14 b15 : UInt8) (sn : Int → Int → Int → Int → Int → Int → Bool) : obs (evF Try.prog (baseC 3 (selSn sn)) noLoop 100 20 42 [Value.string ⟨⟨[b0,b1,b2,b3,b4,b5,b6,b7,b8,b9,b10,b11,b12,b13,b14,b15]⟩⟩,.bool true] (stT [])) = some (Value.tuple { toList:=[Value.agg ⟨[.int .u32 (bits BinOp.or IntKind.u32 (bits BinOp.or IntKind.u32 (bits BinOp.or IntKind.u32 (IntKind.u32.wrap (IntKind.u32.wrap (↑b3.toNat) * (16777216:Int))) (IntKind.u32.wrap (IntKind.u32.wrap (↑b2.toNat) * (65536:Int)))) (IntKind.u32.wrap (IntKind.u32.wrap (↑b1.toNat) * (256:Int)))) (IntKind.u32.wrap (↑b0.toNat))),.int .u8 (IntKind.u8.wrap (bits BinOp.or IntKind.u32 (0:Int) (IntKind.u32.wrap (↑b4.toNat)))),.int .u16 (IntKind.u16.wrap (bits BinOp.or IntKind.u32 (bits BinOp.or IntKind.u32 (0:Int) (IntKind.u32.wrap (IntKind.u32.wrap (↑b6.toNat) * (256:Int)))) (IntKind.u32.wrap (↑b5.toNat)))),.int .u16 (IntKind.u16.wrap (bits BinOp.or IntKind.u32 (bits BinOp.or IntKind.u32 (0:Int) (IntKind.u32.wrap (IntKind.u32.wrap (↑b8.toNat) * (256:Int)))) (IntKind.u32.wrap (↑b7.toNat)))),.int .u16 (IntKind.u16.wrap (bits BinOp.or IntKind.u32 (bits BinOp.or IntKind.u32 (0:Int) (IntKind.u32.wrap (IntKind.u32.wrap (↑b10.toNat) * (256:Int)))) (IntKind.u32.wrap (↑b9.toNat)))),.int .u16 (IntKind.u16.wrap (bits BinOp.or IntKind.u32 (bits BinOp.or IntKind.u32 (0:Int) (IntKind.u32.wrap (IntKind.u32.wrap (↑b12.toNat) * (256:Int)))) (IntKind.u32.wrap (↑b11.toNat)))),.int .u32 (bits BinOp.or IntKind.u32 (bits BinOp.or IntKind.u32 (bits BinOp.or IntKind.u32 (0:Int) (IntKind.u32.wrap (IntKind.u32.wrap (↑b14.toNat) * (256:Int)))) (IntKind.u32.wrap (↑b13.toNat))) (IntKind.u32.wrap (bits BinOp.or IntKind.u32 (0:Int) (IntKind.u32.wrap (↑b15.toNat)) * (65536:Int)))),.bool (sn (IntKind.u8.wrap (bits BinOp.or IntKind.u32 (0:Int) (IntKind.u32.wrap (↑b4.toNat)))) (IntKind.u16.wrap (bits BinOp.or IntKind.u32 (bits BinOp.or IntKind.u32 (0:Int) (IntKind.u32.wrap (IntKind.u32.wrap (↑b6.toNat) * (256:Int)))) (IntKind.u32.wrap (↑b5.toNat)))) (IntKind.u16.wrap (bits BinOp.or IntKind.u32 (bits BinOp.or IntKind.u32 (0:Int) (IntKind.u32.wrap (IntKind.u32.wrap (↑b8.toNat) * (256:Int)))) (IntKind.u32.wrap (↑b7.toNat)))) (IntKind.u16.wrap (bits BinOp.or IntKind.u32 (bits BinOp.or IntKind.u32 (0:Int) (IntKind.u32.wrap (IntKind.u32.wrap (↑b10.toNat) * (256:Int)))) (IntKind.u32.wrap (↑b9.toNat)))) (IntKind.u16.wrap (bits BinOp.or IntKind.u32 (bits BinOp.or IntKind.u32 (0:Int) (IntKind.u32.wrap (IntKind.u32.wrap (↑b12.toNat) * (256:Int)))) (IntKind.u32.wrap (↑b11.toNat)))) (bits BinOp.or IntKind.u32 (bits BinOp.or IntKind.u32 (bits BinOp.or IntKind.u32 (0:Int) (IntKind.u32.wrap (IntKind.u32.wrap (↑b14.toNat) * (256:Int)))) (IntKind.u32.wrap (↑b13.toNat))) (IntKind.u32.wrap (bits BinOp.or IntKind.u32 (0:Int) (IntKind.u32.wrap (↑b15.toNat)) * (65536:Int)))))]⟩,.bool true] },True∧((0:Int) ≤ bits BinOp.or IntKind.u32 (bits BinOp.or IntKind.u32 (bits BinOp.or IntKind.u32 (IntKind.u32.wrap (IntKind.u32.wrap (↑b3.toNat) * (16777216:Int))) (IntKind.u32.wrap (IntKind.u32.wrap (↑b2.toNat) * (65536:Int)))) (IntKind.u32.wrap (IntKind.u32.wrap (↑b1.toNat) * (256:Int)))) (IntKind.u32.wrap (↑b0.toNat))∧bits BinOp.or IntKind.u32 (bits BinOp.or IntKind.u32 (bits BinOp.or IntKind.u32 (IntKind.u32.wrap (IntKind.u32.wrap (↑b3.toNat) * (16777216:Int))) (IntKind.u32.wrap (IntKind.u32.wrap (↑b2.toNat) * (65536:Int)))) (IntKind.u32.wrap (IntKind.u32.wrap (↑b1.toNat) * (256:Int)))) (IntKind.u32.wrap (↑b0.toNat)) < (4294967296:Int)∧(0:Int) ≤ IntKind.u8.wrap (bits BinOp.or IntKind.u32 (0:Int) (IntKind.u32.wrap (↑b4.toNat)))∧IntKind.u8.wrap (bits BinOp.or IntKind.u32 (0:Int) (IntKind.u32.wrap (↑b4.toNat))) < (256:Int)∧(0:Int) ≤ IntKind.u16.wrap (bits BinOp.or IntKind.u32 (bits BinOp.or IntKind.u32 (0:Int) (IntKind.u32.wrap (IntKind.u32.wrap (↑b6.toNat) * (256:Int)))) (IntKind.u32.wrap (↑b5.toNat)))∧IntKind.u16.wrap (bits BinOp.or IntKind.u32 (bits BinOp.or IntKind.u32 (0:Int) (IntKind.u32.wrap (IntKind.u32.wrap (↑b6.toNat) * (256:Int)))) (IntKind.u32.wrap (↑b5.toNat))) < (65536:Int)∧(0:Int) ≤ IntKind.u16.wrap (bits BinOp.or IntKind.u32 (bits BinOp.or IntKind.u32 (0:Int) (IntKind.u32.wrap (IntKind.u32.wrap (↑b8.toNat) * (256:Int)))) (IntKind.u32.wrap (↑b7.toNat)))∧IntKind.u16.wrap (bits BinOp.or IntKind.u32 (bits BinOp.or IntKind.u32 (0:Int) (IntKind.u32.wrap (IntKind.u32.wrap (↑b8.toNat) * (256:Int)))) (IntKind.u32.wrap (↑b7.toNat))) < (65536:Int)∧(0:Int) ≤ IntKind.u16.wrap (bits BinOp.or IntKind.u32 (bits BinOp.or IntKind.u32 (0:Int) (IntKind.u32.wrap (IntKind.u32.wrap (↑b10.toNat) * (256:Int)))) (IntKind.u32.wrap (↑b9.toNat)))∧IntKind.u16.wrap (bits BinOp.or IntKind.u32 (bits BinOp.or IntKind.u32 (0:Int) (IntKind.u32.wrap (IntKind.u32.wrap (↑b10.toNat) * (256:Int)))) (IntKind.u32.wrap (↑b9.toNat))) < (65536:Int)∧(0:Int) ≤ IntKind.u16.wrap (bits BinOp.or IntKind.u32 (bits BinOp.or IntKind.u32 (0:Int) (IntKind.u32.wrap (IntKind.u32.wrap (↑b12.toNat) * (256:Int)))) (IntKind.u32.wrap (↑b11.toNat)))∧IntKind.u16.wrap (bits BinOp.or IntKind.u32 (bits BinOp.or IntKind.u32 (0:Int) (IntKind.u32.wrap (IntKind.u32.wrap (↑b12.toNat) * (256:Int)))) (IntKind.u32.wrap (↑b11.toNat))) < (65536:Int)∧(0:Int) ≤ bits BinOp.or IntKind.u32 (bits BinOp.or IntKind.u32 (bits BinOp.or IntKind.u32 (0:Int) (IntKind.u32.wrap (IntKind.u32.wrap (↑b14.toNat) * (256:Int)))) (IntKind.u32.wrap (↑b13.toNat))) (IntKind.u32.wrap (bits BinOp.or IntKind.u32 (0:Int) (IntKind.u32.wrap (↑b15.toNat)) * (65536:Int)))∧bits BinOp.or IntKind.u32 (bits BinOp.or IntKind.u32 (bits BinOp.or IntKind.u32 (0:Int) (IntKind.u32.wrap (IntKind.u32.wrap (↑b14.toNat) * (256:Int)))) (IntKind.u32.wrap (↑b13.toNat))) (IntKind.u32.wrap (bits BinOp.or IntKind.u32 (0:Int) (IntKind.u32.wrap (↑b15.toNat)) * (65536:Int))) < (4294967296:Int))∧(rr (Value.agg ⟨[.int .u32 (bits BinOp.or IntKind.u32 (bits BinOp.or IntKind.u32 (bits BinOp.or IntKind.u32 (IntKind.u32.wrap (IntKind.u32.wrap (↑b3.toNat) * (16777216:Int))) (IntKind.u32.wrap (IntKind.u32.wrap (↑b2.toNat) * (65536:Int)))) (IntKind.u32.wrap (IntKind.u32.wrap (↑b1.toNat) * (256:Int)))) (IntKind.u32.wrap (↑b0.toNat))),.int .u8 (IntKind.u8.wrap (bits BinOp.or IntKind.u32 (0:Int) (IntKind.u32.wrap (↑b4.toNat)))),.int .u16 (IntKind.u16.wrap (bits BinOp.or IntKind.u32 (bits BinOp.or IntKind.u32 (0:Int) (IntKind.u32.wrap (IntKind.u32.wrap (↑b6.toNat) * (256:Int)))) (IntKind.u32.wrap (↑b5.toNat)))),.int .u16 (IntKind.u16.wrap (bits BinOp.or IntKind.u32 (bits BinOp.or IntKind.u32 (0:Int) (IntKind.u32.wrap (IntKind.u32.wrap (↑b8.toNat) * (256:Int)))) (IntKind.u32.wrap (↑b7.toNat)))),.int .u16 (IntKind.u16.wrap (bits BinOp.or IntKind.u32 (bits BinOp.or IntKind.u32 (0:Int) (IntKind.u32.wrap (IntKind.u32.wrap (↑b10.toNat) * (256:Int)))) (IntKind.u32.wrap (↑b9.toNat)))),.int .u16 (IntKind.u16.wrap (bits BinOp.or IntKind.u32 (bits BinOp.or IntKind.u32 (0:Int) (IntKind.u32.wrap (IntKind.u32.wrap (↑b12.toNat) * (256:Int)))) (IntKind.u32.wrap (↑b11.toNat)))),.int .u32 (bits BinOp.or IntKind.u32 (bits BinOp.or IntKind.u32 (bits BinOp.or IntKind.u32 (0:Int) (IntKind.u32.wrap (IntKind.u32.wrap (↑b14.toNat) * (256:Int)))) (IntKind.u32.wrap (↑b13.toNat))) (IntKind.u32.wrap (bits BinOp.or IntKind.u32 (0:Int) (IntKind.u32.wrap (↑b15.toNat)) * (65536:Int)))),.bool false]⟩)∧True)∧True∧True):=by kernel_rfl
theorem lcp_t (a g : Nat) (zs : List UInt8) (f : Nat → Bool) (N m n : Nat) (l : List UInt8) (x0 x1 x2 x3 x4 x5 : Nat) (v : Bool) : obs (evF Try.prog (baseF 3 (selSteps (lcpL g l true (Value.tuple { toList:=[Value.agg { toList:=cpC { a:=x0,e:=x1,b:=x2,t:=x3,p:=x4,y:=x5,v:=v : Cp } },.bool true] }) m n f)) noBase) noLoop 100 40 13 [Value.pointer (some ⟨67,0,none⟩),.int .u32 (↑a)] ⟨68,arW false zs f N m n,arO N n,0,[(0,true),(1,true),(2,true),(3,false),(4,false),(5,false),(6,false),(7,false),(8,false),(9,true),(10,true),(11,true),(12,true),(13,true),(14,true),(15,true),(16,true),(17,true),(18,true),(19,true),(20,true),(21,true),(22,true),(23,true),(24,true),(25,true),(26,true),(27,true),(28,true),(29,true),(30,true),(31,true),(32,false),(33,true)],0,True⟩) = some (Value.tuple { toList:=[Value.agg ⟨[.int .u32 (↑x0),.int .u8 (↑x1),.int .u16 (↑x2),.int .u16 (↑x3),.int .u16 (↑x4),.int .u16 (↑x5),.int .u32 0,.bool v]⟩,.bool true] },((bif (List.take ((IntKind.u32.wrap ((↑a:Int)+(16:Int))).toNat - (↑a:Int).toNat) (List.drop (0+(↑a:Int).toNat * 1) (u8s zs))).all isU8 then bif hasN (0+(↑a:Int).toNat * 1+((IntKind.u32.wrap ((↑a:Int)+(16:Int))).toNat - (↑a:Int).toNat)) (u8s zs) then (bif decide ((0:Int) ≤ (↑a:Int)) && decide ((↑a:Int) ≤ (↑(IntKind.u32.wrap ((↑a:Int)+(16:Int))).toNat:Int)) then bif decide ((0:Int) ≤ IntKind.u32.wrap ((↑a:Int)+(16:Int))) && decide (IntKind.u32.wrap ((↑a:Int)+(16:Int)) ≤ (↑N:Int)) then ((((((((((((((((((((((((((((((((True∧((↑a:Int).tmod (16:Int) == (0:Int)) = true)∧((↑a:Int).tmod (16:Int) == (0:Int)) = true)∧((↑a:Int).tmod (16:Int) == (0:Int)) = true)∧rr false)∧rr false)∧rr false)∧rr false)∧rr false)∧rr false)∧tt)∧tt)∧tt)∧tt)∧tt)∧tt)∧tt)∧tt)∧tt)∧tt)∧tt)∧decide ((16:Int) ≤ (↑N:Int)) = true)∧decide ((16:Int) ≤ (↑N:Int)) = true)∧decide ((16:Int) ≤ (↑N:Int)) = true)∧decide ((16:Int) ≤ (↑N:Int)) = true)∧decide ((16:Int) ≤ (↑N:Int)) = true)∧decide ((16:Int) ≤ (↑N:Int)) = true)∧decide ((16:Int) ≤ (↑N:Int)) = true)∧decide ((16:Int) ≤ (↑N:Int)) = true)∧decide ((16:Int) ≤ (↑N:Int)) = true)∧decide ((16:Int) ≤ (↑N:Int)) = true)∧decide ((16:Int) ≤ (↑N:Int)) = true)∧((↑a:Int).tmod (16:Int) == (0:Int)) = true)∧(!decide (IntKind.i64.wrap (↑a) ≤ IntKind.i64.wrap ((↑N:Int) - (16:Int)))) = false else False else False)∧(↑a:Int).toNat.blt N = true else False else False)∧True∧(rr (Value.pointer (some ⟨66,0,none⟩))∧Value.int .i64 (IntKind.i64.wrap ((IntKind.i64.wrap (↑a)).tdiv (16:Int))) = Value.int .i64 (↑g)∧True)∧((tt∧tt∧tt∧tt∧tt∧True∧[Value.int .i64 (↑m),.slice (some ⟨65,0,none⟩) n 9223372036854775873] = [Value.int .i64 (↑m),.slice (some ⟨65,0,none⟩) (wordsB f n).length 9223372036854775873])∧(tt∧(v64 (wordsB f n)).all (okV (fun l => l.blt 68) 3) = true∧tt∧tt∧tt∧True∧v64 (wordsB f n) = List.map (rnV (lift 68 70 [64,65,66,67]) 3) (v64 (wordsB f n)))∧True)∧(tt∧n ≤ n)∧True)∧True∧(Value.string ⟨⟨List.map toU8 (List.take ((IntKind.u32.wrap ((↑a:Int)+(16:Int))).toNat - (↑a:Int).toNat) (List.drop (0+(↑a:Int).toNat * 1) (u8s zs)))⟩⟩ = Value.string ⟨⟨l⟩⟩∧Value.bool (f (↑g:Int).toNat) = Value.bool true∧True)∧True∧True):=by kernel_rfl
end Go.Proofs.Ytliidiceljdgmaa
namespace Go.Proofs.Ytliidiceljdgmaa
open Go.RowKit
open Sy
set_option maxRecDepth 100000
def snI (e b t p y r : Int) : Bool:=soundN e.toNat b.toNat t.toNat p.toNat y.toNat r.toNat
theorem selSn_ok : SelOk Try.prog 3 (selSn snI):=by
 intro f args s c ρ q h hq
 unfold selSn at h
 obtain ⟨h2,h3⟩:=bif_some h
 have h2:=eB h2
 subst h2
 split at h3
 ·cases h3
  obtain ⟨h1,h2,h3,h4,h5,h6,h7,h8,h9,h10,h11,h12,h13,h14⟩:=hq
  rename_i c e b t p y r v
  obtain ⟨c,rfl⟩:=Int.eq_ofNat_of_zero_le h1
  obtain ⟨e,rfl⟩:=Int.eq_ofNat_of_zero_le h3
  obtain ⟨b,rfl⟩:=Int.eq_ofNat_of_zero_le h5
  obtain ⟨t,rfl⟩:=Int.eq_ofNat_of_zero_le h7
  obtain ⟨p,rfl⟩:=Int.eq_ofNat_of_zero_le h9
  obtain ⟨y,rfl⟩:=Int.eq_ofNat_of_zero_le h11
  obtain ⟨r,rfl⟩:=Int.eq_ofNat_of_zero_le h13
  exact snd_con c e b t p y r v ⟨by omega,by omega,by omega,by omega,by omega,by omega,by omega⟩
 ·cases h3
theorem or0_32 (n : Nat) (h : n < 4294967296) : bits .or .u32 (0 : Int) (n : Int) = (n : Int):=by
 have:=orA 0 n 32 (by omega) (by omega) (by omega)
 rw [Nat.zero_add] at this
 exact this
theorem w16A (n : Nat) (h : n < 65536) : IntKind.u16.wrap (n : Int) = (n : Int):=by simp only [rr, tt, IntKind.wrap_u16]; omega
theorem w8B (n : Nat) (h : n < 256) : IntKind.u8.wrap (n : Int) = (n : Int):=by simp only [rr, tt, IntKind.wrap_u8]; omega
theorem ofB (n : Nat) : (UInt8.ofNat (n % 256)).toNat = n % 256:=by simp
theorem two (b : Nat) (h : b < 65536) : IntKind.u16.wrap (bits .or .u32 (bits .or .u32 (0 : Int) (IntKind.u32.wrap (IntKind.u32.wrap ((b / 256 % 256 : Nat) : Int) * (256 : Int)))) (IntKind.u32.wrap ((b % 256 : Nat) : Int))) = (b : Int):=by
 rw [w32A (b / 256 % 256) (by omega),show ((b / 256 % 256 : Nat) : Int) * (256 : Int) = ((b / 256 % 256 * 256 : Nat) : Int) by omega,w32A _ (by omega),w32A (b % 256) (by omega),or0_32 _ (by omega),orA _ _ 8 (by omega) (by omega) (by omega),show b / 256 % 256 * 256 + b % 256 = b by omega,w16A b h]
theorem four (c : Nat) (h : c < 4294967296) : bits .or .u32 (bits .or .u32 (bits .or .u32 (IntKind.u32.wrap (IntKind.u32.wrap ((c / 256 / 256 / 256 % 256 : Nat) : Int) * (16777216 : Int))) (IntKind.u32.wrap (IntKind.u32.wrap ((c / 256 / 256 % 256 : Nat) : Int) * (65536 : Int)))) (IntKind.u32.wrap (IntKind.u32.wrap ((c / 256 % 256 : Nat) : Int) * (256 : Int)))) (IntKind.u32.wrap ((c % 256 : Nat) : Int)) = (c : Int):=by
 rw [w32A (c / 256 / 256 / 256 % 256) (by omega),w32A (c / 256 / 256 % 256) (by omega),w32A (c / 256 % 256) (by omega),w32A (c % 256) (by omega),
  show ((c / 256 / 256 / 256 % 256 : Nat) : Int) * (16777216 : Int) = ((c / 256 / 256 / 256 % 256 * 16777216 : Nat) : Int) by omega,show ((c / 256 / 256 % 256 : Nat) : Int) * (65536 : Int) = ((c / 256 / 256 % 256 * 65536 : Nat) : Int) by omega,show ((c / 256 % 256 : Nat) : Int) * (256 : Int) = ((c / 256 % 256 * 256 : Nat) : Int) by omega,
  w32A (c / 256 / 256 / 256 % 256 * 16777216) (by omega),w32A (c / 256 / 256 % 256 * 65536) (by omega),w32A (c / 256 % 256 * 256) (by omega),orA _ _ 24 (by omega) (by omega) (by omega),orA _ _ 16 (by omega) (by omega) (by omega),orA _ _ 8 (by omega) (by omega) (by omega)]
 omega
def ofC (x : Cp) : Con:=Con.pure [.string ⟨⟨cbL x.a x.e x.b x.t x.p x.y 0⟩⟩,.bool true] (.tuple ⟨[.agg ⟨cpC x⟩,.bool true]⟩)
theorem of_con (x : Cp) (hx : CpB x.a x.e x.b x.t x.p x.y 0) (hs : soundN x.e x.b x.t x.p x.y 0 = true) (hv : x.v = true) : ConOk Try.prog 42 3 (ofC x):=by
 obtain ⟨c,e,b,t,p,y,v⟩:=x
 obtain ⟨h1,h2,h3,h4,h5,h6,h7⟩:=hx
 simp only at h1 h2 h3 h4 h5 h6 h7 hs hv
 subst hv
 have hr:=of_t (UInt8.ofNat (c % 256)) (UInt8.ofNat (c / 256 % 256)) (UInt8.ofNat (c / 256 / 256 % 256)) (UInt8.ofNat (c / 256 / 256 / 256 % 256)) (UInt8.ofNat (e % 256)) (UInt8.ofNat (b % 256)) (UInt8.ofNat (b / 256 % 256)) (UInt8.ofNat (t % 256)) (UInt8.ofNat (t / 256 % 256)) (UInt8.ofNat (p % 256)) (UInt8.ofNat (p / 256 % 256)) (UInt8.ofNat (y % 256)) (UInt8.ofNat (y / 256 % 256)) (UInt8.ofNat (0 % 256)) (UInt8.ofNat (0 / 256 % 256)) (UInt8.ofNat (0 / 65536 % 256)) snI
 have e1 : IntKind.u8.wrap (bits .or .u32 (0 : Int) (IntKind.u32.wrap ((e % 256 : Nat) : Int))) = (e : Int):=by rw [Nat.mod_eq_of_lt h2,w32A e (by omega),or0_32 e (by omega),w8B e h2]
 have er : bits .or .u32 (bits .or .u32 (bits .or .u32 (0 : Int) (IntKind.u32.wrap (IntKind.u32.wrap ((0 / 256 % 256 : Nat) : Int) * (256 : Int)))) (IntKind.u32.wrap ((0 % 256 : Nat) : Int))) (IntKind.u32.wrap (bits .or .u32 (0 : Int) (IntKind.u32.wrap ((0 / 65536 % 256 : Nat) : Int)) * (65536 : Int))) = 0:=by kernel_rfl
 simp only [rr, tt, ofB] at hr
 rw [four c h1,two b h3,two t h4,two p h5,two y h6,e1,er] at hr
 have hsn : snI (e : Int) (b : Int) (t : Int) (p : Int) (y : Int) 0 = true:=by unfold snI; simp only [rr, tt, Int.toNat_natCast]; exact hs
 rw [hsn] at hr
 have hl : cbL c e b t p y 0 = [UInt8.ofNat (c % 256),UInt8.ofNat (c / 256 % 256),UInt8.ofNat (c / 256 / 256 % 256),UInt8.ofNat (c / 256 / 256 / 256 % 256),UInt8.ofNat (e % 256),UInt8.ofNat (b % 256),UInt8.ofNat (b / 256 % 256),UInt8.ofNat (t % 256),UInt8.ofNat (t / 256 % 256),UInt8.ofNat (p % 256),UInt8.ofNat (p / 256 % 256),UInt8.ofNat (y % 256),UInt8.ofNat (y / 256 % 256),UInt8.ofNat (0 % 256),UInt8.ofNat (0 / 256 % 256),UInt8.ofNat (0 / 65536 % 256)]:=by
  simp only [rr, tt, cbL,leW,List.cons_append,List.nil_append]
 unfold ofC
 rw [hl]
 refine pure_run (d:=1) (run_ok (L:=100) ar_names (baseC_ok selSn_ok) (noLoop_ok _) 20) hr ?_ rfl rfl
 refine ⟨trivial,⟨by omega,by omega,by omega,by omega,by omega,by omega,by omega,by omega,by omega,by omega,by omega,by omega,by omega,by omega⟩,⟨trivial,trivial⟩,trivial,trivial⟩
theorem tgY_con (g : Nat) (zs : List UInt8) (f : Nat → Bool) (N m n : Nat) (tl : List Nat) (h : ArOk zs N m n) (hg : (g + 1) * 256 ≤ N) (ht : tgK f g 16 = tl) (hne : tl ≠ []) : ConOk Try.prog 21 3 (tgYC g zs f N m n tl):=by
 obtain ⟨hl,h1,h2,h3,h4⟩:=h
 have hr:=tg_y g zs f N m n tl ⟨hl,h1,h2,h3,h4⟩ hg ht hne
 have e1 : IntKind.i64.wrap ((IntKind.i64.wrap ((g : Int) * (256 : Int))).tdiv (16 : Int)) = ((16 * g : Nat) : Int):=by
  rw [show (g : Int) * (256 : Int) = ((g * 256 : Nat) : Int) by omega,w64A _ (by omega),a_tdiv,w64A _ (by omega)]
  omega
 have e2 : IntKind.i64.wrap ((N : Int).tdiv (256 : Int)) = ((N / 256 : Nat) : Int):=by rw [show (N : Int).tdiv (256 : Int) = ((N / 256 : Nat) : Int) from (Int.ofNat_tdiv N 256).symm,w64A _ (by omega)]
 refine conOk_run (run_ok (L:=100) ar_names (noBase_ok _) (lpEsc_ok _) 40) ⟨by show 64 ≤ 68; omega,by show 68 ≤ 69; omega,arW_okH lt68 false zs f N m n,rfl,rfl,rfl,rfl,rfl,fun x hx v hv => ?_⟩ hr ?_ (p:=fun l => Nat.blt l 69) (σ:=toσ 68 69) ⟨fun l hl => if_neg (by have : NG = 64:=rfl; omega),⟨⟨rfl,flat_all (u32s_flat _),rfl,?_⟩,trivial⟩,rfl,trivial,⟨rfl,by kernel_rfl⟩,rfl,⟨⟨rfl,rfl,flat_bnd (u32s_flat _)⟩,trivial⟩,rfl,okV_bnd 3 _ rfl,fun x hx hrw => ?_⟩
 ·obtain rfl:=List.mem_singleton.1 hx
  exact okV_flat0 (u32s_flat _ v hv) 3
 ·simp only [rr, tt, e1,e2,and_true,true_and,and_self,Nat.le_refl]
  exact decide_eq_false (by omega)
 ·exact ⟨rfl,rfl,trivial,(flat_map (u32s_flat _)).symm⟩
 ·obtain rfl:=List.mem_singleton.1 hx
  right; rfl
theorem lcp_con (a : Nat) (x : Cp) (zs : List UInt8) (f : Nat → Bool) (N m n : Nat) (h : ArOk zs N m n) (ha : a % 16 = 0) (ha2 : a + 16 ≤ N) (hz : (zs.drop a).take 16 = cbL x.a x.e x.b x.t x.p x.y 0) (hf : f (a / 16) = true) (hx : CpB x.a x.e x.b x.t x.p x.y 0) (hs : soundN x.e x.b x.t x.p x.y 0 = true) (hv : x.v = true) : ConOk Try.prog 13 3 (lcpC a x zs f N m n):=by
 obtain ⟨hl,h1,h2,h3,h4⟩:=h
 have hr:=lcp_t a (a / 16) zs f N m n (cbL x.a x.e x.b x.t x.p x.y 0) x.a x.e x.b x.t x.p x.y x.v
 have hcf : ∀ v ∈ cpC x,flat0 v = true:=cpC_flat x
 have et : (a : Int).tmod (16 : Int) = ((a % 16 : Nat) : Int):=(Int.ofNat_tmod a 16).symm
 have e1 : IntKind.u32.wrap ((a : Int) + (16 : Int)) = ((a + 16 : Nat) : Int):=by rw [show (a : Int) + (16 : Int) = ((a + 16 : Nat) : Int) by omega,w32A _ (by omega)]
 have e2 : a + 16 - a = 16:=by omega
 have e3 : IntKind.i64.wrap ((IntKind.i64.wrap (a : Int)).tdiv (16 : Int)) = ((a / 16 : Nat) : Int):=by rw [w64A a (by omega),a_tdiv,w64A _ (by omega)]
 have e4 : IntKind.i64.wrap ((N : Int) - (16 : Int)) = ((N - 16 : Nat) : Int):=by rw [show (N : Int) - (16 : Int) = ((N - 16 : Nat) : Int) by omega,w64A _ (by omega)]
 have v1 : ∀ (σ : Nat → Nat),(v64 (wordsB f n)).map (rnV σ 3) = v64 (wordsB f n):=fun σ => flat_map (v64_flat _)
 have v2 : ∀ (p : Nat → Bool),(v64 (wordsB f n)).all (okV p 3) = true:=fun p => flat_all (v64_flat _)
 have hb : SoundCall Try.prog (baseF 3 (selSteps (lcpL (a / 16) (cbL x.a x.e x.b x.t x.p x.y 0) true (.tuple ⟨[.agg ⟨cpC ⟨x.a,x.e,x.b,x.t,x.p,x.y,x.v⟩⟩,.bool true]⟩) m n f)) noBase):=by
  refine baseF_ok (selSteps_ok fun z hz => ?_) (noBase_ok _)
  simp only [rr, tt, lcpL,List.mem_cons,List.not_mem_nil,or_false] at hz
  rcases hz with rfl | rfl | rfl | rfl
  ·exact ⟨gtw_con (a / 16) m n f (by omega) h2 h3,⟨fun x hx => by cases hx⟩⟩
  ·exact ⟨gtw_con (a / 16) m n f (by omega) h2 h3,⟨fun x hx => by cases hx⟩⟩
  ·exact ⟨of_con x hx hs hv,⟨fun x hx => by cases hx⟩⟩
  ·exact ⟨of_con x hx hs hv,⟨fun x hx => by cases hx⟩⟩
 refine (rdW_run (run_ok (L:=100) ar_names hb (noLoop_ok _) 40) rfl rfl rfl hr ?_).1
 simp (disch:=omega) only [rr, tt, et,ha,e1,e2,e4,w64A,a_tdiv,Int.toNat_natCast,Nat.zero_add,Nat.mul_one,cut_u8s,hz,toU8_map,isU8_allA,u8s_hasA,hl,hf,v1,v2,wordsB_len,a_blt,decide_eq_true,decide_eq_false,Bool.and_self,Bool.true_and,Bool.and_true,Bool.not_true,Bool.not_false,cond_true,and_true,true_and,and_self,Nat.le_refl]
 try simp
end Go.Proofs.Ytliidiceljdgmaa
namespace Go.Proofs.Ytliidiceljdgmaa
open Go.RowKit
open Sy
set_option maxRecDepth 100000
theorem subP_self (p : Nat) : subP p p = true:=by unfold subP; simp
theorem mk_ok {a s p y : Nat} (ha : a < 4294967296) (hp : p < 65536) (hy : y < 65536) : CpOk (mkCp a s p y):=by
 have h1:=mA_le a s p
 have h2:=mP_le a s p
 exact ⟨by show mA a s p < _; omega,mE_lt a s p,mB_lt a s p,mT_lt a s p,by show mP a s p < _; omega,hy,by omega⟩
theorem mk_self {a s p y : Nat} (h : makeOk a s p = true) (ha : a < 4294967296) : cpW (mkCp a s p y) (mkCp a s p y) = true:=by
 have hr:=mk_rg h ha
 unfold cpW
 show withinN (mP a s p) (mP a s p) (rgLo (mA a s p : Nat) (mE a s p : Nat) (mB a s p : Nat) (mT a s p : Nat)) (rgHi (mA a s p : Nat) (mE a s p : Nat) (mB a s p : Nat) (mT a s p : Nat)) (rgLo (mA a s p : Nat) (mE a s p : Nat) (mB a s p : Nat) (mT a s p : Nat)) (rgHi (mA a s p : Nat) (mE a s p : Nat) (mB a s p : Nat) (mT a s p : Nat)) = true
 rw [hr.1,hr.2]
 unfold withinN inN
 rw [subP_self]
 simp
theorem mk_v {a s p y : Nat} (h : makeOk a s p = true) : (mkCp a s p y).v = true:=h
theorem mk_bt {a s p y ha hs : Nat} (h : makeOk a s p = true) (h1 : a < 4294967296) (hy : y < 65536) (hp : p % 64 / 32 = 0) (he : a + s ≤ ha) : BtOk (mkCp a s p y) ha hs:=by
 have hpp : p ≤ 255:=(makeOk_true h).1
 refine ⟨mk_ok h1 (by omega) hy,mk_v h,.inl ⟨?_,?_⟩⟩
 ·show mP a s p % 64 / 32 = 0
  unfold mP; rw [if_pos h]; exact hp
 ·show mtIs (mA a s p : Nat) (mE a s p : Nat) (mB a s p : Nat) (mT a s p : Nat) (ha : Nat) (hs : Nat) = false
  unfold mtIs
  rw [(mk_rg h h1).1,(mk_rg h h1).2,Int.toNat_natCast,Int.toNat_natCast]
  unfold meetsN
  apply decide_eq_false
  omega
theorem mk_auth {t ha hs : Nat} (h : makeOk 1 t 96 = true) : BtOk (mkCp 1 t 96 0) ha hs:=by
 refine ⟨mk_ok (by omega) (by omega) (by omega),mk_v h,.inr ?_⟩
 show mP 1 t 96 % 64 / 32 = 1
 unfold mP; rw [if_pos h]
theorem make_small (a s p : Nat) (h1 : s ≤ 2048) (h2 : a + s ≤ 4294967296) (hp : p ≤ 255) : makeOk a s p = true:=by
 have hx0:=small_exact (b:=a) (t:=a + s) (by omega) (by omega) (by omega)
 have hd0 : dnN a 0 = a:=by unfold dnN; simp
 have hu0 : upN (a + s) 0 = a + s:=by unfold upN; simp
 have hr : rightN a (a + s) = true:=by simp [rightN]; omega
 have hX : encX a (a + s) = true:=by unfold encX; rw [hr,hx0,hd0,hu0]; simp
 unfold makeOk
 rw [hX,decide_eq_true hp,decide_eq_true h2]
 rfl
structure RlSet (da sa ha : Nat) (rs : List Rl) : Prop where
 order : ∀ k,k < rs.length → behindN rs k ≤ (rl0 rs k).at_
 perms : ∀ r ∈ rs,r.perms % 64 / 32 = 0 ∧ r.perms ≤ 255
 ends : ∀ r ∈ rs,(bif r.code then r.off else (da + r.off) % 4294967296) + r.size ≤ ha ∧ (bif r.code then r.off else (da + r.off) % 4294967296) < 4294967296
theorem and_eq (x y : Nat) (hx : x < 65536) (hy : y < 65536) (h : bits .andNot .u16 (x : Int) (y : Int) = 0) : x &&& y = x:=by
 have h1 : IntKind.u16.wrap ((BitVec.ofInt 16 (x : Int) &&& ~~~ BitVec.ofInt 16 (y : Int)).toNat : Int) = 0:=h
 have hlt:=(BitVec.ofInt 16 (x : Int) &&& ~~~ BitVec.ofInt 16 (y : Int)).isLt
 rw [IntKind.wrap_u16] at h1
 have h2 : (BitVec.ofInt 16 (x : Int) &&& ~~~ BitVec.ofInt 16 (y : Int)).toNat = 0:=by omega
 have h3 : BitVec.ofInt 16 (x : Int) &&& ~~~ BitVec.ofInt 16 (y : Int) = 0#16:=BitVec.eq_of_toNat_eq h2
 have h4 : (BitVec.ofInt 16 (x : Int) &&& BitVec.ofInt 16 (y : Int)) = BitVec.ofInt 16 (x : Int):=by
  apply BitVec.eq_of_getLsbD_eq
  intro i hi
  have:=congrArg (fun v => BitVec.getLsbD v i) h3
  simp only [rr, tt, BitVec.getLsbD_and,BitVec.getLsbD_not,BitVec.getLsbD_zero] at this
  rw [BitVec.getLsbD_and]
  revert this
  cases BitVec.getLsbD (BitVec.ofInt 16 (x : Int)) i <;> cases BitVec.getLsbD (BitVec.ofInt 16 (y : Int)) i <;> simp [hi]
 have h5:=congrArg BitVec.toNat h4
 rw [BitVec.toNat_and,BitVec.ofInt_natCast,BitVec.ofInt_natCast,BitVec.toNat_ofNat,BitVec.toNat_ofNat,Nat.mod_eq_of_lt (by omega),Nat.mod_eq_of_lt (by omega)] at h5
 exact h5
theorem bit5 (x y : Nat) (h : x &&& y = x) (hy : y.testBit 5 = false) : x % 64 / 32 = 0:=by
 have h1 : x.testBit 5 = false:=by rw [← h,Nat.testBit_and,hy,Bool.and_false]
 rw [Nat.testBit_eq_decide_div_mod_eq] at h1
 have:=of_decide_eq_false h1
 omega
theorem rl_more {types : Int} {nc len : Nat} {c sa : Nat} {r : Rl} {behind : Nat} (hr : RlOk r) (hn : nc ≤ 4096) (hl : len ≤ 16384) (hc : 4 * nc ≤ c) (hc2 : c < 500000) (hsa : c + len ≤ sa) (h : relRight types nc len 0 c r behind = true) :
  behind ≤ r.at_ ∧ (r.perms % 64 / 32 = 0 ∧ r.perms ≤ 255) ∧ (bif r.code then r.off else (c + r.off) % 4294967296) + r.size ≤ sa ∧ (bif r.code then r.off else (c + r.off) % 4294967296) < 4294967296:=by
 unfold relRight at h
 rw [Bool.and_eq_true,Bool.not_eq_true'] at h
 obtain ⟨h1,h2⟩:=h
 unfold relBad at h1
 simp only [rr, tt, Bool.or_eq_false_iff,decide_eq_false_iff_not] at h1
 obtain ⟨g1,g2,g3,g4,g5,g6⟩:=h1
 simp only [rr, tt, bne_eq_false_iff_eq] at g5
 unfold allowed at g5
 unfold whole at g4
 refine ⟨by omega,?_,?_⟩
 ·cases hcode : r.code <;> rw [hcode] at g5
  ·have:=and_eq r.perms 155 hr.perms (by omega) g5
   exact ⟨bit5 _ 155 this (by decide),by have:=andNot_le r.perms 155 hr.perms (by omega) g5; omega⟩
  ·have:=and_eq r.perms 133 hr.perms (by omega) g5
   exact ⟨bit5 _ 133 this (by decide),by have:=andNot_le r.perms 133 hr.perms (by omega) g5; omega⟩
 ·have:=hr.off
  cases hcode : r.code <;> rw [hcode] at g4 <;> simp only [rr, tt, cond_true,cond_false] at g4 ⊢ <;> omega
theorem mem_st (sa s : Nat) : ∀ n k,k < n → mkCp (sa + k * s) s 27 0 ∈ stL sa s n
 | 0,k,h => by omega
 | n + 1,k,h => by
  unfold stL
  by_cases hk : k = n
  ·subst hk; simp
  ·exact List.mem_append_left _ (mem_st sa s n k (by omega))
theorem st_mem (sa s : Nat) (x : Cp) : ∀ n,x ∈ stL sa s n → ∃ k,k < n ∧ x = mkCp (sa + k * s) s 27 0
 | 0,h => by cases h
 | n + 1,h => by
  rcases List.mem_append.1 (show x ∈ stL sa s n ++ [mkCp (sa + n * s) s 27 0] from h) with h | h
  ·obtain ⟨k,h1,h2⟩:=st_mem sa s x n h
   exact ⟨k,by omega,h2⟩
  ·exact ⟨n,by omega,List.mem_singleton.1 h⟩
theorem mem_rl (da : Nat) (rs : List Rl) : ∀ n k,k < n → rlCp da (rl0 rs k) ∈ rlL da rs n
 | 0,k,h => by omega
 | n + 1,k,h => by
  unfold rlL
  by_cases hk : k = n
  ·subst hk; simp
  ·exact List.mem_append_left _ (mem_rl da rs n k (by omega))
theorem rl_mem (da : Nat) (rs : List Rl) (x : Cp) : ∀ n,x ∈ rlL da rs n → ∃ k,k < n ∧ x = rlCp da (rl0 rs k)
 | 0,h => by cases h
 | n + 1,h => by
  rcases List.mem_append.1 (show x ∈ rlL da rs n ++ [rlCp da (rl0 rs n)] from h) with h | h
  ·obtain ⟨k,h1,h2⟩:=rl_mem da rs x n h
   exact ⟨k,by omega,h2⟩
  ·exact ⟨n,by omega,List.mem_singleton.1 h⟩
theorem adL_mem {b : Bool} {l : List Cp} {x y : Cp} (h : y ∈ adL b l x) : y ∈ l ∨ (b = true ∧ y = x):=by
 unfold adL at h
 cases b
 ·exact .inl h
 ·rcases List.mem_append.1 (show y ∈ l ++ [x] from h) with h | h
  ·exact .inl h
  ·exact .inr ⟨rfl,List.mem_singleton.1 h⟩
theorem mem_adL {b : Bool} {l : List Cp} {x y : Cp} (h : y ∈ l ∨ (b = true ∧ y = x)) : y ∈ adL b l x:=by
 unfold adL
 cases b
 ·rcases h with h | ⟨h,_⟩
  ·exact h
  ·cases h
 ·rcases h with h | ⟨_,rfl⟩
  ·exact List.mem_append_left _ h
  ·exact List.mem_append_right _ (List.mem_singleton.2 rfl)
theorem boot_mem {c da ds sa s t ns : Nat} {rs : List Rl} {x : Cp} (h : x ∈ bootL c da ds sa s t ns rs) : x = mkCp 0 c 5 0 ∨ (0 < ds ∧ x = mkCp da ds 27 0) ∨ (∃ k,k < ns ∧ x = mkCp (sa + k * s) s 27 0) ∨ (0 < t ∧ x = mkCp 1 t 96 0) ∨ ∃ k,k < rs.length ∧ x = rlCp da (rl0 rs k):=by
 rcases List.mem_append.1 h with h | h
 ·rcases adL_mem h with h | ⟨h1,h2⟩
  ·rcases List.mem_append.1 h with h | h
   ·rcases adL_mem h with h | ⟨h1,h2⟩
    ·exact .inl (List.mem_singleton.1 h)
    ·have:=of_decide_eq_true h1
     exact .inr (.inl ⟨by omega,h2⟩)
   ·exact .inr (.inr (.inl (st_mem _ _ _ _ h)))
  ·have:=of_decide_eq_true h1
   exact .inr (.inr (.inr (.inl ⟨by omega,h2⟩)))
 ·exact .inr (.inr (.inr (.inr (rl_mem _ _ _ _ h))))
theorem mem_boot {c da ds sa s t ns : Nat} {rs : List Rl} {x : Cp} (h : x = mkCp 0 c 5 0 ∨ (0 < ds ∧ x = mkCp da ds 27 0) ∨ (∃ k,k < ns ∧ x = mkCp (sa + k * s) s 27 0) ∨ (0 < t ∧ x = mkCp 1 t 96 0) ∨ ∃ k,k < rs.length ∧ x = rlCp da (rl0 rs k)) : x ∈ bootL c da ds sa s t ns rs:=by
 unfold bootL
 rcases h with rfl | ⟨h1,rfl⟩ | ⟨k,h1,rfl⟩ | ⟨h1,rfl⟩ | ⟨k,h1,rfl⟩
 ·exact List.mem_append_left _ (mem_adL (.inl (List.mem_append_left _ (mem_adL (.inl (List.mem_singleton.2 rfl))))))
 ·exact List.mem_append_left _ (mem_adL (.inl (List.mem_append_left _ (mem_adL (.inr ⟨decide_eq_true (by omega),rfl⟩)))))
 ·exact List.mem_append_left _ (mem_adL (.inl (List.mem_append_right _ (mem_st _ _ _ _ h1))))
 ·exact List.mem_append_left _ (mem_adL (.inr ⟨decide_eq_true (by omega),rfl⟩))
 ·exact List.mem_append_right _ (mem_rl _ _ _ _ h1)
end Go.Proofs.Ytliidiceljdgmaa
namespace Go.Proofs.Ytliidiceljdgmaa
open Go.RowKit
open Sy
set_option maxRecDepth 100000
theorem dec_tell {e b t c x y : Nat} (h : decN e b t c = (x,y)) (hy : 0 < y) : tellOk e b t c = true ∧ tellB e b t c = x ∧ tellT e b t c = y:=by
 unfold decN at h
 split at h
 ·rename_i h1
  obtain ⟨g1,g2,g3⟩:=tellOk_true h1.1
  simp only [rr, tt, Prod.mk.injEq] at h
  exact ⟨h1.1,by omega,by omega⟩
 ·simp only [rr, tt, Prod.mk.injEq] at h
  omega
theorem pc_in {c to : Nat} (h1 : c % 256 = 0) (h2 : 0 < c) (h3 : c ≤ 400000) (ht : to ≤ c) : (cpPc c to).v = true ∧ cpW (cpPc c to) (mkCp 0 c 5 0) = true:=by
 have hm : makeOk 0 c 5 = true:=make0 c 5 h1 (by omega) (by omega)
 have hA : mA 0 c 5 = 0:=by unfold mA; rw [if_pos hm]
 have d0:=mk_dec (c:=0) hm (by omega) (Nat.le_refl _) (by omega)
 have d1:=mk_dec (c:=to) hm (by omega) (by omega) (by omega)
 have r0:=mk_rg hm (by omega)
 constructor
 ·show adV (mA 0 c 5) (mE 0 c 5) (mB 0 c 5) (mT 0 c 5) 0 (mV 0 c 5) to = true
  unfold adV freeN keepsN
  obtain ⟨t1,t2,t3⟩:=dec_tell d0 (by omega)
  obtain ⟨t4,t5,t6⟩:=dec_tell d1 (by omega)
  have hv : mV 0 c 5 = true:=hm
  rw [hA,hv,t1,t2,t3,t5,t6]
  simp
 ·unfold cpW
  show withinN (mP 0 c 5) (mP 0 c 5) (rgLo (to : Nat) (mE 0 c 5 : Nat) (mB 0 c 5 : Nat) (mT 0 c 5 : Nat)) (rgHi (to : Nat) (mE 0 c 5 : Nat) (mB 0 c 5 : Nat) (mT 0 c 5 : Nat)) (rgLo (mA 0 c 5 : Nat) (mE 0 c 5 : Nat) (mB 0 c 5 : Nat) (mT 0 c 5 : Nat)) (rgHi (mA 0 c 5 : Nat) (mE 0 c 5 : Nat) (mB 0 c 5 : Nat) (mT 0 c 5 : Nat)) = true
  rw [r0.1,r0.2]
  unfold rgLo rgHi
  simp only [rr, tt, Int.toNat_natCast]
  rw [d1]
  unfold withinN inN
  rw [subP_self]
  simp
structure WnOk (p s t c da ds sa ha ns : Nat) : Prop where
 c1 : c % 256 = 0
 c2 : 0 < c
 ds1 : ds % 256 = 0
 da1 : da = c
 sa1 : sa = c + ds
 s1 : s % 256 = 0
 s2 : s ≤ 4096
 t2 : t ≤ 2048
 ns1 : ns ≤ 4
 sm : sa + 4 * s ≤ 390000
 ha1 : sa + ns * s ≤ ha
theorem boot_ok {p s t c da ds sa ha hs ns : Nat} {rs : List Rl} (h : WnOk p s t c da ds sa ha ns) (hr : RlSet da sa ha rs) (hf : ∀ r ∈ rs,RlOk r ∧ (rlCp da r).v = true) : ∀ x ∈ bootL c da ds sa s t ns rs,BtOk x ha hs:=by
 have e1:=h.c1; have e2:=h.c2; have e3:=h.ds1; have e4:=h.da1; have e5:=h.sa1; have e6:=h.s1; have e7:=h.s2; have e8:=h.t2; have e9:=h.ns1; have e10:=h.sm; have e11:=h.ha1
 intro x hx
 rcases boot_mem hx with rfl | ⟨h1,rfl⟩ | ⟨k,h1,rfl⟩ | ⟨h1,rfl⟩ | ⟨k,h1,rfl⟩
 ·exact mk_bt (make0 c 5 e1 (by omega) (by omega)) (by omega) (by omega) (by omega) (by omega)
 ·exact mk_bt (make_pages da ds 27 (by omega) e3 (by omega) (by omega)) (by omega) (by omega) (by omega) (by omega)
 ·have hks : k * s + s ≤ ns * s:=by
   have : (k + 1) * s ≤ ns * s:=Nat.mul_le_mul_right s h1
   rw [Nat.add_mul,Nat.one_mul] at this
   exact this
  have hns : ns * s ≤ 4 * s:=Nat.mul_le_mul_right s e9
  have hmod : (sa + k * s) % 256 = 0:=by
   rw [Nat.add_mod,Nat.mul_mod,e6,Nat.mul_zero]; omega
  exact mk_bt (make_pages _ s 27 hmod e6 (by omega) (by omega)) (by omega) (by omega) (by omega) (by omega)
 ·exact mk_auth (make_small 1 t 96 e8 (by omega) (by omega))
 ·have hm : rl0 rs k ∈ rs:=by
   unfold rl0; rw [List.getD_eq_getElem?_getD,List.getElem?_eq_getElem h1]; exact List.getElem_mem _
  obtain ⟨q1,q2⟩:=hf _ hm
  obtain ⟨q3,q4⟩:=hr.ends _ hm
  exact mk_bt q2 q4 q1.typ (hr.perms _ hm).1 q3
theorem cpO_ok : CpOk cpO:=⟨by decide,by decide,by decide,by decide,by decide,by decide,by decide⟩
theorem cpG_pos {b : Nat} (h : 0 < b) (a s p : Nat) : cpG b a s p = mkCp a s p 0:=by
 simp only [rr, tt, cpG,mkCp,gA,gE,gB,gT,gP,gV,if_pos h]
theorem cpG_neg {b : Nat} (h : ¬ 0 < b) (a s p : Nat) : cpG b a s p = cpO:=by
 simp only [rr, tt, cpG,cpO,gA,gE,gB,gT,gP,gV,if_neg h]
theorem fr_mem {c da ds sa s t : Nat} {so : List Nat} {x : Cp} : ∀ {j : Nat},x ∈ frCp c da ds sa s t so j → ∃ k,k < j ∧ x ∈ frCps c da ds sa s t so k
 | 0,h => by cases h
 | j + 1,h => by
  rcases List.mem_append.1 (show x ∈ frCp c da ds sa s t so j ++ frCps c da ds sa s t so j from h) with h | h
  ·obtain ⟨k,h1,h2⟩:=fr_mem h
   exact ⟨k,by omega,h2⟩
  ·exact ⟨j,by omega,h⟩
theorem fr_at (c da ds sa s t : Nat) (so : List Nat) : ∀ (j k r : Nat),k < j → r < 17 → cpK (frCp c da ds sa s t so j) (17 * k + r) = cpK (frCps c da ds sa s t so k) r
 | 0,k,r,h,_ => by omega
 | j + 1,k,r,h,hr => by
  have hl:=frCp_len c da ds sa s t so j
  unfold frCp cpK
  rw [List.getD_eq_getElem?_getD,List.getD_eq_getElem?_getD]
  by_cases hk : k = j
  ·subst hk
   rw [List.getElem?_append_right (by omega)]
   congr 2
   omega
  ·rw [List.getElem?_append_left (by omega)]
   have:=fr_at c da ds sa s t so j k r (by omega) hr
   unfold cpK at this
   rw [List.getD_eq_getElem?_getD,List.getD_eq_getElem?_getD] at this
   exact this
theorem frame_ok {p s t c da ds sa ha hs ns : Nat} {rs : List Rl} {so : List Nat} (h : WnOk p s t c da ds sa ha ns) (hns : ns = so.length) (hb : ∀ x ∈ bootL c da ds sa s t ns rs,BtOk x ha hs) (hso : ∀ k,k < ns → 4 * so.getD k 0 ≤ c) :
  (∀ x ∈ frCp c da ds sa s t so ns,RgOk (bootL c da ds sa s t ns rs) x) ∧ ∀ k,k < ns → (cpK (frCp c da ds sa s t so ns) (17 * k + 16)).v = true ∧ ∃ y ∈ bootL c da ds sa s t ns rs,cpW (cpK (frCp c da ds sa s t so ns) (17 * k + 16)) y = true:=by
 have e1:=h.c1; have e2:=h.c2; have e3:=h.ds1; have e4:=h.da1; have e5:=h.sa1; have e6:=h.s1; have e7:=h.s2; have e8:=h.t2; have e9:=h.ns1; have e10:=h.sm; have e11:=h.ha1
 have hpc : ∀ k,k < ns → (cpPc c (4 * so.getD k 0)).v = true ∧ ∃ y ∈ bootL c da ds sa s t ns rs,cpW (cpPc c (4 * so.getD k 0)) y = true:=fun k hk => by
  have:=pc_in e1 e2 (by omega) (hso k hk)
  exact ⟨this.1,_,mem_boot (.inl rfl),this.2⟩
 have hin : ∀ {a z p : Nat},makeOk a z p = true → a < 4294967296 → mkCp a z p 0 ∈ bootL c da ds sa s t ns rs → RgOk (bootL c da ds sa s t ns rs) (mkCp a z p 0):=fun {a z p} h1 h2 h3 => by
  have hpp : p ≤ 255:=(makeOk_true h1).1
  exact ⟨mk_ok h2 (by omega) (by omega),.inl ⟨mk_v h1,_,h3,mk_self h1 h2⟩⟩
 have hO : RgOk (bootL c da ds sa s t ns rs) cpO:=⟨cpO_ok,.inr rfl⟩
 refine ⟨fun x hx => ?_,fun k hk => ?_⟩
 ·obtain ⟨k,hk,hx⟩:=fr_mem hx
  have hks : k * s + s ≤ ns * s:=by
   have : (k + 1) * s ≤ ns * s:=Nat.mul_le_mul_right s hk
   rw [Nat.add_mul,Nat.one_mul] at this
   exact this
  have hns4 : ns * s ≤ 4 * s:=Nat.mul_le_mul_right s e9
  have hmod : (sa + k * s) % 256 = 0:=by
   rw [Nat.add_mod,Nat.mul_mod,e6,Nat.mul_zero]; omega
  have hg1 : RgOk (bootL c da ds sa s t ns rs) (cpG ds da ds 27):=by
   by_cases hd : 0 < ds
   ·rw [cpG_pos hd]; exact hin (make_pages da ds 27 (by omega) e3 (by omega) (by omega)) (by omega) (mem_boot (.inr (.inl ⟨hd,rfl⟩)))
   ·rw [cpG_neg hd]; exact hO
  have hg2 : RgOk (bootL c da ds sa s t ns rs) (cpG t 1 t 96):=by
   by_cases hd : 0 < t
   ·rw [cpG_pos hd]; exact hin (make_small 1 t 96 e8 (by omega) (by omega)) (by omega) (mem_boot (.inr (.inr (.inr (.inl ⟨hd,rfl⟩)))))
   ·rw [cpG_neg hd]; exact hO
  have hst : RgOk (bootL c da ds sa s t ns rs) (mkCp (sa + k * s) s 27 0):=hin (make_pages _ s 27 hmod e6 (by omega) (by omega)) (by omega) (mem_boot (.inr (.inr (.inl ⟨k,hk,rfl⟩))))
  have hpk : RgOk (bootL c da ds sa s t ns rs) (cpPc c (4 * so.getD k 0)):=by
   have:=hso k hk
   refine ⟨⟨by show 4 * so.getD k 0 < _; omega,mE_lt _ _ _,mB_lt _ _ _,mT_lt _ _ _,?_,by show (0 : Nat) < 65536; omega,by omega⟩,.inl (hpc k hk)⟩
   have:=mP_le 0 c 5
   show mP 0 c 5 < 65536
   omega
  simp only [rr, tt, frCps,List.mem_cons,List.not_mem_nil,or_false] at hx
  rcases hx with rfl | rfl | rfl | rfl | rfl | rfl | rfl | rfl | rfl | rfl | rfl | rfl | rfl | rfl | rfl | rfl | rfl
  ·exact hO
  ·exact hg1
  ·exact hg2
  all_goals first
   | exact hO
   | exact hst
   | exact hpk
 ·rw [fr_at c da ds sa s t so ns k 16 hk (by omega)]
  exact hpc k hk
theorem rlT_yes (da : Nat) (rs : List Rl) (g : Nat) : ∀ k,rlT da rs k g = true → ∃ i,i < k ∧ (da + (rl0 rs i).at_) / 16 = g
 | 0,h => by cases h
 | k + 1,h => by
  have h' : setB (rlT da rs k) ((da + (rl0 rs k).at_) / 16) true g = true:=h
  unfold setB at h'
  split at h'
  ·rename_i he; exact ⟨k,by omega,he.symm⟩
  ·obtain ⟨i,h1,h2⟩:=rlT_yes da rs g k h'
   exact ⟨i,by omega,h2⟩
theorem rl_order {da sa ha : Nat} {rs : List Rl} (h : RlSet da sa ha rs) : ∀ k i,i < k → k < rs.length → (rl0 rs i).at_ + 16 ≤ (rl0 rs k).at_
 | 0,i,hi,_ => by omega
 | k + 1,i,hi,hk => by
  have h1 : (rl0 rs k).at_ + 16 ≤ (rl0 rs (k + 1)).at_:=h.order (k + 1) hk
  by_cases hik : i = k
  ·subst hik; exact h1
  ·have:=rl_order h k i (by omega) (by omega)
   omega
def rlB (da : Nat) (r : Rl) : List UInt8:=cbL (rlCp da r).a (rlCp da r).e (rlCp da r).b (rlCp da r).t (rlCp da r).p (rlCp da r).y 0
theorem relZ_at {da sa ha N : Nat} {rs : List Rl} {zs : List UInt8} (hN : zs.length = N) (hf : ∀ r ∈ rs,RlFit da N r) (h : RlSet da sa ha rs) : ∀ k i,i < k → k ≤ rs.length → ((relZ da rs zs k).drop (da + (rl0 rs i).at_)).take 16 = rlB da (rl0 rs i)
 | 0,i,hi,_ => by omega
 | k + 1,i,hi,hk => by
  have hm : ∀ k,k < rs.length → rl0 rs k ∈ rs:=fun k hk => by
   unfold rl0; rw [List.getD_eq_getElem?_getD,List.getElem?_eq_getElem (by omega)]; exact List.getElem_mem _
  have hl:=relZ_len da rs zs N hN hf k (by omega)
  have hfit:=(hf _ (hm k (by omega))).fit
  unfold relZ
  have hbl : (cbL (rlCp da (rl0 rs k)).a (rlCp da (rl0 rs k)).e (rlCp da (rl0 rs k)).b (rlCp da (rl0 rs k)).t (rlCp da (rl0 rs k)).p (rlCp da (rl0 rs k)).y 0).length = 16:=cbL_len _ _ _ _ _ _ _
  by_cases hik : i = k
  ·subst hik
   have:=read_pat (da + (rl0 rs i).at_) (rlB da (rl0 rs i)) (relZ da rs zs i) (by unfold rlB; rw [hbl,hl]; omega)
   unfold rlB at this ⊢
   rw [hbl] at this
   exact this
  ·rw [← relZ_at hN hf h k i (by omega) (by omega)]
   have ho:=rl_order h k i (by omega) (by omega)
   apply List.ext_getElem?
   intro n
   by_cases hn : n < 16
   ·rw [List.getElem?_take_of_lt hn,List.getElem?_take_of_lt hn,List.getElem?_drop,List.getElem?_drop,patA_get _ _ _ (by rw [hbl,hl]; omega),if_neg (by omega)]
   ·rw [List.getElem?_eq_none (by simp; omega),List.getElem?_eq_none (by simp; omega)]
end Go.Proofs.Ytliidiceljdgmaa
namespace Go.Proofs.Ytliidiceljdgmaa
open Go.RowKit
open Sy
set_option maxRecDepth 100000
def lsE (out : Value) (n k : Nat) : List (Nat × Value):=[(1,.pointer (some ⟨67,0,none⟩)),(2,.pointer (some ⟨72,0,none⟩)),(3,out),(4,.int .i64 0),(5,.pointer (some ⟨68,0,none⟩)),(6,.pointer (some ⟨73,0,none⟩)),(79,.int .i64 (n : Nat)),(80,.int .i64 (k : Nat))]
def lsH (p s t : Nat) (nc : Nat) (d : List UInt8) (a2 : Option Addr) (n2 c2 : Nat) (c da ds sa ss ha hs : Nat) (so : List Nat) : Sy.Heap:=[(73,⟨false,none,plQ (p : Nat) (s : Nat) (t : Nat) nc so.length d a2 n2 c2 (c : Nat) (da : Nat) (ds : Nat) (sa : Nat) (ss : Nat) (ha : Nat) (hs : Nat),none⟩),(66,⟨false,some (0,0),u32s so,none⟩)]
def lsN (p s t : Nat) (nc : Nat) (d : List UInt8) (a2 : Option Addr) (n2 c2 : Nat) (c da ds sa ss ha hs : Nat) (so : List Nat) (k : Nat) : Sf:=⟨74,lsE (.slice none 0 0) so.length k,lsH p s t nc d a2 n2 c2 c da ds sa ss ha hs so,[]⟩
def lsY (p s t : Nat) (nc : Nat) (d : List UInt8) (a2 : Option Addr) (n2 c2 : Nat) (c da ds sa ss ha hs : Nat) (so : List Nat) (fl : List Value) (k : Nat) : Sf:=⟨75,lsE (.slice (some ⟨74,0,none⟩) k (big + 74)) so.length k,(74,⟨true,some (74,136),fl,none⟩) :: lsH p s t nc d a2 n2 c2 c da ds sa ss ha hs so,[(74,k)]⟩
theorem ls_0 (p : Nat) (s : Nat) (t : Nat) (nc : Nat) (d : List UInt8) (a2 : Option Addr) (n2 : Nat) (c2 : Nat) (c : Nat) (da : Nat) (ds : Nat) (sa : Nat) (ss : Nat) (ha : Nat) (hs : Nat) (so : List Nat) (k : Nat) : evC Try.prog (evF Try.prog (baseF 3 (selSteps [(74,40,fqK p s t nc so.length d a2 n2 c2 c da ds sa ss ha hs so k,[64,65,66])]) noBase) noLoop 100 20) (noLoop 12) 92 100 (loopOf Try.prog 12 2) (Sf.frT 92 (lsN p s t nc d a2 n2 c2 c da ds sa ss ha hs so k) [(0,true)]) = some (Exit.normal,{ e:=[[unk,.pointer (some ⟨67,0,none⟩),.pointer (some ⟨72,0,none⟩),.slice (some ⟨75,0,none⟩) 1 9223372036854775883,.int .i64 0,.pointer (some ⟨68,0,none⟩),.pointer (some ⟨73,0,none⟩),unk,unk,unk,unk,.int .i64 (↑k),unk,unk,unk,unk],[unk,unk,unk,unk,unk,unk,unk,unk,unk,unk,unk,unk,unk,unk,unk,unk],[unk,unk,unk,unk,unk,unk,unk,unk,unk,unk,unk,unk,unk,unk,unk,unk],[unk,unk,unk,unk,unk,unk,unk,unk,unk,unk,unk,unk,unk,unk,unk,unk],[unk,unk,unk,unk,unk,unk,unk,unk,unk,unk,unk,unk,unk,unk,unk,.int .i64 (↑so.length)],[Value.int .i64 (IntKind.i64.wrap ((↑k : Int) + (1 : Int))),.bool (decide ((↑k : Int) < (↑so.length : Int))),.int .i64 (↑k),.slice none 0 0,.agg ⟨[.int .i64 (↑p),.int .i64 (↑s),.int .i64 (↑t),.slice (some ⟨64,0,none⟩) nc 9223372036854775872,.string ⟨⟨d⟩⟩,.slice a2 n2 c2,.slice (some ⟨66,0,none⟩) so.length 9223372036854775874,.int .u32 0,.int .u32 (↑c),.int .u32 (↑da),.int .u32 (↑ds),.int .u32 (↑sa),.int .u32 (↑ss),.int .u32 (↑ha),.int .u32 (↑hs)]⟩,.int .i64 (↑k),.agg { toList:=(frC c da ds sa s t so k) },.slice (some ⟨74,0,none⟩) 1 1,.slice (some ⟨75,0,none⟩) 1 9223372036854775883,.int .i64 (IntKind.i64.wrap ((↑k : Int) + (1 : Int))),unk,unk,unk,unk,unk,unk]],s:={ n:=76,h:=[(75,⟨true,some (75,136),(frC c da ds sa s t so k),none⟩),(74,⟨true,none,(frC c da ds sa s t so k),none⟩),(73,⟨false,none,[Value.int .i64 (↑p),.int .i64 (↑s),.int .i64 (↑t),.slice (some ⟨64,0,none⟩) nc 9223372036854775872,.string ⟨⟨d⟩⟩,.slice a2 n2 c2,.slice (some ⟨66,0,none⟩) so.length 9223372036854775874,.int .u32 0,.int .u32 (↑c),.int .u32 (↑da),.int .u32 (↑ds),.int .u32 (↑sa),.int .u32 (↑ss),.int .u32 (↑ha),.int .u32 (↑hs)],none⟩),(66,⟨false,some (0,0),u32s so,none⟩)],lo:=[(75,1)],esc:=0,T:=[],k:=1,O:=(True ∧ decide ((↑k : Int) < (↑so.length : Int)) = true) ∧ True ∧ (Value.agg ⟨[.int .i64 (↑p),.int .i64 (↑s),.int .i64 (↑t),.slice (some ⟨64,0,none⟩) nc 9223372036854775872,.string ⟨⟨d⟩⟩,.slice a2 n2 c2,.slice (some ⟨66,0,none⟩) so.length 9223372036854775874,.int .u32 0,.int .u32 (↑c),.int .u32 (↑da),.int .u32 (↑ds),.int .u32 (↑sa),.int .u32 (↑ss),.int .u32 (↑ha),.int .u32 (↑hs)]⟩ = Value.agg ⟨[.int .i64 (↑p),.int .i64 (↑s),.int .i64 (↑t),.slice (some ⟨64,0,none⟩) nc 9223372036854775872,.string ⟨⟨d⟩⟩,.slice (Option.map (rnA (lift 67 74 [64,65,66])) a2) n2 (rnC (lift 67 74 [64,65,66]) c2),.slice (some ⟨66,0,none⟩) so.length 9223372036854775874,.int .u32 0,.int .u32 (↑c),.int .u32 (↑da),.int .u32 (↑ds),.int .u32 (↑sa),.int .u32 (↑ss),.int .u32 (↑ha),.int .u32 (↑hs)]⟩ ∧ rr (Value.int .i64 (↑k)) ∧ True) ∧ ((tt ∧ (u32s so).all (okV (fun l => l.blt 67) 3) = true ∧ tt ∧ tt ∧ tt ∧ True ∧ u32s so = List.map (rnV (lift 67 74 [64,65,66]) 3) (u32s so)) ∧ True) ∧ True : St } : Fr }):=by kernel_rfl
theorem ls_1 (p : Nat) (s : Nat) (t : Nat) (nc : Nat) (d : List UInt8) (a2 : Option Addr) (n2 : Nat) (c2 : Nat) (c : Nat) (da : Nat) (ds : Nat) (sa : Nat) (ss : Nat) (ha : Nat) (hs : Nat) (so : List Nat) (fl : List Value) (k : Nat) : evC Try.prog (evF Try.prog (baseF 3 (selSteps [(75,40,fqK p s t nc so.length d a2 n2 c2 c da ds sa ss ha hs so k,[64,65,66])]) noBase) noLoop 100 20) (noLoop 12) 92 100 (loopOf Try.prog 12 2) (Sf.frT 92 (lsY p s t nc d a2 n2 c2 c da ds sa ss ha hs so fl k) [(0,true)]) = some (Exit.normal,{ e:=[[unk,.pointer (some ⟨67,0,none⟩),.pointer (some ⟨72,0,none⟩),.slice (some ⟨76,0,none⟩) (k + 1) 9223372036854775884,.int .i64 0,.pointer (some ⟨68,0,none⟩),.pointer (some ⟨73,0,none⟩),unk,unk,unk,unk,.int .i64 (↑k),unk,unk,unk,unk],[unk,unk,unk,unk,unk,unk,unk,unk,unk,unk,unk,unk,unk,unk,unk,unk],[unk,unk,unk,unk,unk,unk,unk,unk,unk,unk,unk,unk,unk,unk,unk,unk],[unk,unk,unk,unk,unk,unk,unk,unk,unk,unk,unk,unk,unk,unk,unk,unk],[unk,unk,unk,unk,unk,unk,unk,unk,unk,unk,unk,unk,unk,unk,unk,.int .i64 (↑so.length)],[Value.int .i64 (IntKind.i64.wrap ((↑k : Int) + (1 : Int))),.bool (decide ((↑k : Int) < (↑so.length : Int))),.int .i64 (↑k),.slice (some ⟨74,0,none⟩) k 9223372036854775882,.agg ⟨[.int .i64 (↑p),.int .i64 (↑s),.int .i64 (↑t),.slice (some ⟨64,0,none⟩) nc 9223372036854775872,.string ⟨⟨d⟩⟩,.slice a2 n2 c2,.slice (some ⟨66,0,none⟩) so.length 9223372036854775874,.int .u32 0,.int .u32 (↑c),.int .u32 (↑da),.int .u32 (↑ds),.int .u32 (↑sa),.int .u32 (↑ss),.int .u32 (↑ha),.int .u32 (↑hs)]⟩,.int .i64 (↑k),.agg { toList:=(frC c da ds sa s t so k) },.slice (some ⟨75,0,none⟩) 1 1,.slice (some ⟨76,0,none⟩) (k + 1) 9223372036854775884,.int .i64 (IntKind.i64.wrap ((↑k : Int) + (1 : Int))),unk,unk,unk,unk,unk,unk]],s:={ n:=77,h:=[(76,⟨true,some (76,136),fl ++ (frC c da ds sa s t so k),none⟩),(75,⟨true,none,(frC c da ds sa s t so k),none⟩),(73,⟨false,none,[Value.int .i64 (↑p),.int .i64 (↑s),.int .i64 (↑t),.slice (some ⟨64,0,none⟩) nc 9223372036854775872,.string ⟨⟨d⟩⟩,.slice a2 n2 c2,.slice (some ⟨66,0,none⟩) so.length 9223372036854775874,.int .u32 0,.int .u32 (↑c),.int .u32 (↑da),.int .u32 (↑ds),.int .u32 (↑sa),.int .u32 (↑ss),.int .u32 (↑ha),.int .u32 (↑hs)],none⟩),(66,⟨false,some (0,0),u32s so,none⟩)],lo:=[(76,k + 1),(74,k)],esc:=0,T:=[],k:=1,O:=bif (lenT fl).beq (k * 136) then bif ((k + 1) * 408).ble 1099511627776 && (k + 1).blt 4611686018427387904 then (True ∧ decide ((↑k : Int) < (↑so.length : Int)) = true) ∧ True ∧ (Value.agg ⟨[.int .i64 (↑p),.int .i64 (↑s),.int .i64 (↑t),.slice (some ⟨64,0,none⟩) nc 9223372036854775872,.string ⟨⟨d⟩⟩,.slice a2 n2 c2,.slice (some ⟨66,0,none⟩) so.length 9223372036854775874,.int .u32 0,.int .u32 (↑c),.int .u32 (↑da),.int .u32 (↑ds),.int .u32 (↑sa),.int .u32 (↑ss),.int .u32 (↑ha),.int .u32 (↑hs)]⟩ = Value.agg ⟨[.int .i64 (↑p),.int .i64 (↑s),.int .i64 (↑t),.slice (some ⟨64,0,none⟩) nc 9223372036854775872,.string ⟨⟨d⟩⟩,.slice (Option.map (rnA (lift 67 75 [64,65,66])) a2) n2 (rnC (lift 67 75 [64,65,66]) c2),.slice (some ⟨66,0,none⟩) so.length 9223372036854775874,.int .u32 0,.int .u32 (↑c),.int .u32 (↑da),.int .u32 (↑ds),.int .u32 (↑sa),.int .u32 (↑ss),.int .u32 (↑ha),.int .u32 (↑hs)]⟩ ∧ rr (Value.int .i64 (↑k)) ∧ True) ∧ ((tt ∧ (u32s so).all (okV (fun l => l.blt 67) 3) = true ∧ tt ∧ tt ∧ tt ∧ True ∧ u32s so = List.map (rnV (lift 67 75 [64,65,66]) 3) (u32s so)) ∧ True) ∧ True else False else False : St } : Fr }):=by kernel_rfl
theorem ls_e (p : Nat) (s : Nat) (t : Nat) (nc : Nat) (d : List UInt8) (a2 : Option Addr) (n2 : Nat) (c2 : Nat) (c : Nat) (da : Nat) (ds : Nat) (sa : Nat) (ss : Nat) (ha : Nat) (hs : Nat) (so : List Nat) (fl : List Value) (k : Nat) : evC Try.prog (evF Try.prog noBase noLoop 100 20) (noLoop 12) 92 100 (loopOf Try.prog 12 2) (Sf.frT 92 (lsY p s t nc d a2 n2 c2 c da ds sa ss ha hs so fl k) [(0,false)]) = some (Exit.exit 4,{ e:=[[unk,.pointer (some ⟨67,0,none⟩),.pointer (some ⟨72,0,none⟩),.slice (some ⟨74,0,none⟩) k 9223372036854775882,.int .i64 0,.pointer (some ⟨68,0,none⟩),.pointer (some ⟨73,0,none⟩),unk,unk,unk,unk,unk,unk,unk,unk,unk],[unk,unk,unk,unk,unk,unk,unk,unk,unk,unk,unk,unk,unk,unk,unk,unk],[unk,unk,unk,unk,unk,unk,unk,unk,unk,unk,unk,unk,unk,unk,unk,unk],[unk,unk,unk,unk,unk,unk,unk,unk,unk,unk,unk,unk,unk,unk,unk,unk],[unk,unk,unk,unk,unk,unk,unk,unk,unk,unk,unk,unk,unk,unk,unk,.int .i64 (↑so.length)],[Value.int .i64 (↑k),.bool (decide ((↑k : Int) < (↑so.length : Int))),unk,unk,unk,unk,unk,unk,unk,unk,unk,unk,unk,unk,unk,unk]],s:={ n:=75,h:=[(74,⟨true,some (74,136),fl,none⟩),(73,⟨false,none,[Value.int .i64 (↑p),.int .i64 (↑s),.int .i64 (↑t),.slice (some ⟨64,0,none⟩) nc 9223372036854775872,.string ⟨⟨d⟩⟩,.slice a2 n2 c2,.slice (some ⟨66,0,none⟩) so.length 9223372036854775874,.int .u32 0,.int .u32 (↑c),.int .u32 (↑da),.int .u32 (↑ds),.int .u32 (↑sa),.int .u32 (↑ss),.int .u32 (↑ha),.int .u32 (↑hs)],none⟩),(66,⟨false,some (0,0),u32s so,none⟩)],lo:=[(74,k)],esc:=0,T:=[],k:=1,O:=True ∧ decide ((↑k : Int) < (↑so.length : Int)) = false : St } : Fr }):=by kernel_rfl
end Go.Proofs.Ytliidiceljdgmaa
namespace Go.Proofs.Ytliidiceljdgmaa
open Go.RowKit
open Sy
set_option maxRecDepth 100000
def GmOk (a2 : Option Addr) (n2 c2 : Nat) : Prop:=∀ (q : Nat → Bool) (d : Nat),(∀ l,l < 67 → q l = true) → okV q d (.slice a2 n2 c2) = true
theorem gm_rn {a2 : Option Addr} {n2 c2 : Nat} (em : GmOk a2 n2 c2) (n : Nat) : Value.slice (a2.map (rnA (lift 67 n [64,65,66]))) n2 (rnC (lift 67 n [64,65,66]) c2) = .slice a2 n2 c2 :=
 rnV_on (p:=fun l => Nat.blt l 67) (σ:=lift 67 n [64,65,66]) (fun l hl => lift_ids (n:=67) (N:=n) (ρ:=[64,65,66]) rfl rfl (by simpa using hl)) 0 (.slice a2 n2 c2) (em _ 0 fun l hl => blt_yes hl)
theorem gm_fill (n : Nat) : GmOk (some ⟨65,0,none⟩) n (big + 65):=fun q d hq => by
 cases d <;> simp [okV,bndA,hq 65 (by omega),flat0,big]
theorem frL_len (c da ds sa s t : Nat) (so : List Nat) (j : Nat) : (frL c da ds sa s t so j).length = j * 136:=by
 rw [frL_cp,cpL_len,frCp_len]; omega
theorem frL_fl (c da ds sa s t : Nat) (so : List Nat) (j : Nat) : ∀ v ∈ frL c da ds sa s t so j,flat0 v = true:=fun v hv => List.all_eq_true.1 (frL_flat c da ds sa s t so j) v hv
def lsS (p s t : Nat) (nc : Nat) (d : List UInt8) (a2 : Option Addr) (n2 c2 : Nat) (c da ds sa ss ha hs : Nat) (so : List Nat) : Nat → Sf
 | 0 => lsN p s t nc d a2 n2 c2 c da ds sa ss ha hs so 0
 | k + 1 => lsY p s t nc d a2 n2 c2 c da ds sa ss ha hs so (frL c da ds sa s t so (k + 1)) (k + 1)
def lsF (c da ds sa s t : Nat) (so : List Nat) : Sf:=⟨76,[(1,.pointer (some ⟨67,0,none⟩)),(2,.pointer (some ⟨72,0,none⟩)),(3,.slice (some ⟨75,0,none⟩) so.length (big + 75)),(4,.int .i64 0),(5,.pointer (some ⟨68,0,none⟩)),(6,.pointer (some ⟨73,0,none⟩))],[(75,⟨true,some (75,136),frL c da ds sa s t so so.length,none⟩)],[(75,so.length)]⟩
theorem lsF_ok (c da ds sa s t : Nat) (so : List Nat) (a : Nat) (ha : a = 74 ∨ a = 75) (σ : Nat → Nat) (p : Nat → Bool) (hs : ∀ l,l < 74 → σ l = l) (hp : ∀ l,l < 74 → p l = true) : (lsF c da ds sa s t so).Ok (keeps a 76 σ p):=by
 have hlow : ∀ l,l < 74 → keeps a 76 σ p l = true:=fun l hl => by
  unfold keeps
  rw [blt_yes (by omega : l < a),hs l hl,hp l hl,Nat.beq_refl]
  cases Nat.blt l NG <;> rfl
 have hq : keeps a 76 σ p 75 = true:=by
  unfold keeps
  rw [blt_no (by omega : a ≤ 75)]; rfl
 refine Sf.Ok.mk' 3 ⟨⟨hq,hq,flat_bnd (frL_fl _ _ _ _ _ _ _ _)⟩,trivial⟩ (by show (keeps a 76 σ p 75 && true) = true; rw [hq]; rfl) (fun x hx => ?_)
 have h7:=hlow 67 (by omega)
 have h2:=hlow 72 (by omega)
 have h8:=hlow 68 (by omega)
 have h3:=hlow 73 (by omega)
 simp only [rr, tt, lsF,List.mem_cons,List.not_mem_nil,or_false] at hx
 rcases hx with rfl | rfl | rfl | rfl | rfl | rfl <;> simp [okV,bndA,h7,h2,h8,h3,hq,flat0,big]
theorem lsH_ok {q : Nat → Bool} {a2 : Option Addr} {n2 c2 : Nat} (em : GmOk a2 n2 c2) (h : ∀ l,l < 74 → q l = true) (p s t : Nat) (nc : Nat) (d : List UInt8) (c da ds sa ss ha hs : Nat) (so : List Nat) : OkH q (lsH p s t nc d a2 n2 c2 c da ds sa ss ha hs so) :=
 ⟨⟨h 73 (by omega),rfl,fun v hv => okV_bnd 3 v (plQ_cell (em _ 3 fun l hl => h l (by omega)) (h 64 (by omega)) (h 66 (by omega)) _ _ _ _ _ _ _ _ _ _ _ _ _ v hv)⟩,⟨h 66 (by omega),h 0 (by omega),flat_bnd (u32s_flat so)⟩,trivial⟩
theorem lsE_ok {q : Nat → Bool} (out : Value) (n k : Nat) (h : ∀ l,l < 74 → q l = true) (ho : okV q 3 out = true) : ∀ x ∈ lsE out n k,okV q 3 x.2 = true:=fun x hx => by
 have h7:=h 67 (by omega)
 have h2:=h 72 (by omega)
 have h8:=h 68 (by omega)
 have h3:=h 73 (by omega)
 simp only [rr, tt, lsE,List.mem_cons,List.not_mem_nil,or_false] at hx
 rcases hx with rfl | rfl | rfl | rfl | rfl | rfl | rfl | rfl
 all_goals first
  | exact ho
  | simp [okV,bndA,h7,h2,h8,h3,flat0]
theorem lsS_wf (p s t : Nat) (nc : Nat) (d : List UInt8) {a2 : Option Addr} {n2 c2 : Nat} (em : GmOk a2 n2 c2) (c da ds sa ss ha hs : Nat) (so : List Nat) (k : Nat) : (lsS p s t nc d a2 n2 c2 c da ds sa ss ha hs so k).Wf:=by
 cases k with
 | zero => exact ⟨by show 64 ≤ 74; omega,Sf.Ok.mk' 3 (lsH_ok em lt74 _ _ _ _ _ _ _ _ _ _ _ _ _) rfl (lsE_ok _ _ _ lt74 rfl)⟩
 | succ k => exact ⟨by show 64 ≤ 75; omega,Sf.Ok.mk' 3 ⟨⟨rfl,rfl,flat_bnd (frL_fl _ _ _ _ _ _ _ _)⟩,lsH_ok em (fun l hl => by show Nat.blt l 75 = true; exact blt_yes (by omega)) _ _ _ _ _ _ _ _ _ _ _ _ _⟩ rfl (lsE_ok _ _ _ (fun l hl => by show Nat.blt l 75 = true; exact blt_yes (by omega)) rfl)⟩
theorem lsH_seen {h1 : Sy.Heap} {q : Nat → Bool} {σ : Nat → Nat} {a2 : Option Addr} {n2 c2 : Nat} (em : GmOk a2 n2 c2) (hq : ∀ l,l < 74 → q l = true) (hs : ∀ l,l < 74 → σ l = l) (p s t : Nat) (nc : Nat) (d : List UInt8) (c da ds sa ss ha hs' : Nat) (so : List Nat)
  (h73 : Sy.look h1 73 = some ⟨false,none,plQ (p : Nat) (s : Nat) (t : Nat) nc so.length d a2 n2 c2 (c : Nat) (da : Nat) (ds : Nat) (sa : Nat) (ss : Nat) (ha : Nat) (hs' : Nat),none⟩) (h66 : Sy.look h1 66 = some ⟨false,some (0,0),u32s so,none⟩) : SeenH 3 q σ h1 (lsH p s t nc d a2 n2 c2 c da ds sa ss ha hs' so):=by
 have hr : ∀ l : List Value,(∀ w ∈ l,okV (fun l => Nat.blt l 74) 3 w = true) → l.map (rnV σ 3) = l:=fun l hl => by
  rw [List.map_congr_left (g:=id) (fun w hw => rnV_on (p:=fun l => Nat.blt l 74) (fun l hl => hs l (by simpa using hl)) 3 w (hl w hw))]
  simp
 refine ⟨⟨hq 73 (by omega),List.all_eq_true.2 (plQ_cell (em _ 3 fun l hl => hq l (by omega)) (hq 64 (by omega)) (hq 66 (by omega)) _ _ _ _ _ _ _ _ _ _ _ _ _),rfl,?_⟩,⟨hq 66 (by omega),flat_all (u32s_flat so),hq 0 (by omega),?_⟩,trivial⟩
 ·show match Sy.look h1 (σ 73) with | none => False | some k1 => _
  rw [hs 73 (by omega),h73]
  exact ⟨rfl,rfl,trivial,(hr _ (plQ_cell (em _ 3 fun l hl => by show Nat.blt l 74 = true; exact blt_yes (by omega)) rfl rfl _ _ _ _ _ _ _ _ _ _ _ _ _)).symm⟩
 ·show match Sy.look h1 (σ 66) with | none => False | some k1 => _
  rw [hs 66 (by omega),h66]
  refine ⟨rfl,?_,trivial,(flat_map (u32s_flat _)).symm⟩
  show (opB (some (0,0)) (some (σ 0,0)) || _) = true
  rw [hs 0 (by omega)]; rfl
theorem ls_loop (p s t : Nat) (nc : Nat) (d : List UInt8) {a2 : Option Addr} {n2 c2 : Nat} (em : GmOk a2 n2 c2) (c da ds sa ss ha hs : Nat) (so : List Nat) (h1 : 1 ≤ so.length) (h4 : so.length ≤ 4) (hso : ∀ x ∈ so,x < 4096) (hc : c < 500000) (hda : da < 500000) (hds : ds < 500000) (hsa : sa < 500000) (hs2 : s ≤ 4096) (ht : t ≤ 2048) :
  ∀ k : { k : Nat // k ≤ so.length },LoopOk Try.prog 92 (loopOf Try.prog 12 2) ((lsS p s t nc d a2 n2 c2 c da ds sa ss ha hs so k.1).fr 92) (.exit 4) ((lsF c da ds sa s t so).fr 92):=by
 refine loop_okC (L:=100) (noLoop_any _ _ 12) (fun _ h => h) (X:={ k : Nat // k ≤ so.length }) (fun k => lsS p s t nc d a2 n2 c2 c da ds sa ss ha hs so k.1) (fun _ => lsF c da ds sa s t so) (fun _ => .exit 4) (fun k => so.length - k.1) (fun k => lsS_wf _ _ _ _ _ em _ _ _ _ _ _ _ _ _) ?_
 rintro ⟨k,hk⟩
 have f3 : ∀ (xs : List Nat) (p : Nat → Bool),(u32s xs).all (okV p 3) = true:=fun xs p => flat_all (u32s_flat _)
 have f4 : ∀ (xs : List Nat) (σ : Nat → Nat),(u32s xs).map (rnV σ 3) = u32s xs:=fun xs σ => flat_map (u32s_flat _)
 by_cases hlt : k < so.length
 ·have hx : so.getD k 0 < 4096:=by
   rw [List.getD_eq_getElem?_getD,List.getElem?_eq_getElem hlt]; exact hso _ (List.getElem_mem hlt)
  have hcon:=fq_con p s t nc so.length d a2 n2 c2 c da ds sa ss ha hs so k (em _ 2 fun l hl => blt_yes hl) hlt rfl h4 (by omega) hc hda hds hsa hs2 ht
  have e5 : IntKind.i64.wrap ((k : Int) + (1 : Int)) = ((k + 1 : Nat) : Int):=cast_succ_i64 k (by omega)
  have d1 : decide ((k : Int) < (so.length : Int)) = true:=decide_eq_true (by omega)
  have hcon' : ∀ X : Nat,∀ x ∈ ([(X,40,fqK p s t nc so.length d a2 n2 c2 c da ds sa ss ha hs so k,[64,65,66])] : Sy.Steps),ConOk Try.prog x.2.1 3 x.2.2.1 ∧ FlatC x.2.2.1:=fun X x hx => by
   obtain rfl:=List.mem_singleton.1 hx; exact hcon
  cases k with
  | zero =>
   have hr:=ls_0 p s t nc d a2 n2 c2 c da ds sa ss ha hs so 0
   simp only [rr, tt, e5] at hr
   refine ⟨_,_,.normal,_,3,fun l => Nat.blt l 75,toσ 74 75,run_ok (L:=100) ar_names (baseF_ok (selSteps_ok (hcon' 74)) (noBase_ok _)) (noLoop_ok _) 20,hr,?_,.inl ⟨rfl,⟨1,by omega⟩,by show so.length - 1 < so.length - 0; omega,rfl,rfl,?_⟩⟩
   ·simp only [rr, tt, d1,f3,f4,gm_rn em,and_true,true_and,and_self,Nat.le_refl]
   ·have hnf : ([] : List Value) ++ frC c da ds sa s t so 0 = frL c da ds sa s t so 1:=rfl
    refine ⟨fun l hl => if_neg (by have : NG = 64:=rfl; omega),⟨⟨rfl,flat_all (frL_fl _ _ _ _ _ _ _ _),rfl,?_⟩,lsH_seen em (fun l hl => by show Nat.blt l 75 = true; exact blt_yes (by omega)) (fun l hl => if_neg (by omega)) p s t nc d c da ds sa ss ha hs so rfl rfl⟩,rfl,⟨⟨rfl,Nat.le_refl _⟩,trivial⟩,⟨⟨by kernel_rfl,by kernel_rfl⟩,⟨by kernel_rfl,by kernel_rfl⟩,⟨by kernel_rfl,by kernel_rfl⟩,⟨by kernel_rfl,by kernel_rfl⟩,⟨by kernel_rfl,by kernel_rfl⟩,⟨by kernel_rfl,by kernel_rfl⟩,⟨by kernel_rfl,by kernel_rfl⟩,⟨by kernel_rfl,by kernel_rfl⟩,trivial⟩,by show 74 ≤ 75; omega,fun l hl => blt_no hl,lsF_ok _ _ _ _ _ _ _ 74 (.inl rfl) _ _ (fun l hl => if_neg (by omega)) (fun l hl => by show Nat.blt l 75 = true; exact blt_yes (by omega)),fun y hy hrw => ?_⟩
    ·exact ⟨rfl,rfl,trivial,by rw [flat_map (frL_fl _ _ _ _ _ _ _ _)]; rfl⟩
    ·rcases List.mem_cons.1 hy with rfl | hy
     ·cases hrw
     ·simp only [rr, tt, lsH,List.mem_cons,List.not_mem_nil,or_false] at hy
      rcases hy with rfl | rfl
      ·left; rfl
      ·left; rfl
  | succ k =>
   have hr:=ls_1 p s t nc d a2 n2 c2 c da ds sa ss ha hs so (frL c da ds sa s t so (k + 1)) (k + 1)
   simp only [rr, tt, e5] at hr
   refine ⟨_,_,.normal,_,3,fun l => Nat.blt l 75,toσ 74 76,run_ok (L:=100) ar_names (baseF_ok (selSteps_ok (hcon' 75)) (noBase_ok _)) (noLoop_ok _) 20,hr,?_,.inl ⟨rfl,⟨k + 2,by omega⟩,by show so.length - (k + 2) < so.length - (k + 1); omega,rfl,rfl,?_⟩⟩
   ·show cond _ _ _
    rw [lenT_eq,frL_len,Nat.beq_refl]
    show cond _ _ _
    rw [Nat.ble_eq_true_of_le (by omega),blt_yes (by omega)]
    simp only [rr, tt, d1,f3,f4,gm_rn em,Bool.and_self,cond_true,and_true,true_and,and_self,Nat.le_refl]
   ·refine ⟨fun l hl => if_neg (by have : NG = 64:=rfl; omega),⟨⟨rfl,flat_all (frL_fl _ _ _ _ _ _ _ _),rfl,?_⟩,lsH_seen em (fun l hl => by show Nat.blt l 75 = true; exact blt_yes (by omega)) (fun l hl => if_neg (by omega)) p s t nc d c da ds sa ss ha hs so rfl rfl⟩,rfl,⟨⟨rfl,Nat.le_refl _⟩,trivial⟩,⟨⟨by kernel_rfl,by kernel_rfl⟩,⟨by kernel_rfl,by kernel_rfl⟩,⟨by kernel_rfl,by kernel_rfl⟩,⟨by kernel_rfl,by kernel_rfl⟩,⟨by kernel_rfl,by kernel_rfl⟩,⟨by kernel_rfl,by kernel_rfl⟩,⟨by kernel_rfl,by kernel_rfl⟩,⟨by kernel_rfl,by kernel_rfl⟩,trivial⟩,by show 75 ≤ 75; omega,fun l hl => blt_no hl,lsF_ok _ _ _ _ _ _ _ 75 (.inr rfl) _ _ (fun l hl => if_neg (by omega)) (fun l hl => by show Nat.blt l 75 = true; exact blt_yes (by omega)),fun y hy hrw => ?_⟩
    ·exact ⟨rfl,rfl,trivial,by rw [flat_map (frL_fl _ _ _ _ _ _ _ _)]; rfl⟩
    ·rcases List.mem_cons.1 hy with rfl | hy
     ·cases hrw
     ·simp only [rr, tt, lsH,List.mem_cons,List.not_mem_nil,or_false] at hy
      rcases hy with rfl | rfl
      ·left; rfl
      ·left; rfl
 ·have hkk : k = so.length:=by omega
  obtain ⟨j,rfl⟩ : ∃ j,k = j + 1:=⟨k - 1,by omega⟩
  have hr:=ls_e p s t nc d a2 n2 c2 c da ds sa ss ha hs so (frL c da ds sa s t so (j + 1)) (j + 1)
  have e3 : Value.slice (some ⟨74,0,none⟩) (j + 1) (big + 74) = rnV (toσ 75 74) 3 (.slice (some ⟨75,0,none⟩) so.length (big + 75)):=by
   rw [hkk]; kernel_rfl
  refine ⟨_,_,.exit 4,_,3,fun l => Nat.blt l 76,toσ 75 74,run_ok (L:=100) ar_names (noBase_ok _) (noLoop_ok _) 20,hr,?_,.inr ⟨by simp,rfl,?_⟩⟩
  ·exact ⟨trivial,decide_eq_false (by omega)⟩
  ·refine ⟨fun l hl => if_neg (by have : NG = 64:=rfl; omega),⟨⟨rfl,flat_all (frL_fl _ _ _ _ _ _ _ _),rfl,?_⟩,trivial⟩,rfl,⟨⟨rfl,?_⟩,trivial⟩,?_,by show 75 ≤ 76; omega,fun l hl => blt_no hl,lsF_ok _ _ _ _ _ _ _ 75 (.inr rfl) _ _ (fun l hl => if_neg (by omega)) (fun l hl => by show Nat.blt l 76 = true; exact blt_yes (by omega)),fun y hy hrw => ?_⟩
   ·exact ⟨rfl,rfl,trivial,by rw [flat_map (frL_fl _ _ _ _ _ _ _ _),← hkk]⟩
   ·exact Nat.le_of_eq hkk.symm
   ·exact ⟨⟨by kernel_rfl,by kernel_rfl⟩,⟨by kernel_rfl,by kernel_rfl⟩,⟨by kernel_rfl,Eq.trans (b:=Value.slice (some ⟨74,0,none⟩) (j + 1) (big + 74)) (by kernel_rfl) e3⟩,⟨by kernel_rfl,by kernel_rfl⟩,⟨by kernel_rfl,by kernel_rfl⟩,⟨by kernel_rfl,by kernel_rfl⟩,trivial⟩
   ·obtain rfl:=List.mem_singleton.1 hy; cases hrw
def lsEnt (p s t : Nat) (nc : Nat) (d : List UInt8) {a2 : Option Addr} {n2 c2 : Nat} (em : GmOk a2 n2 c2) (c da ds sa ss ha hs : Nat) (so : List Nat) (h1 : 1 ≤ so.length) (h4 : so.length ≤ 4) (hso : ∀ x ∈ so,x < 4096) (hc : c < 500000) (hda : da < 500000) (hds : ds < 500000) (hsa : sa < 500000) (hs2 : s ≤ 4096) (ht : t ≤ 2048) : Ent Try.prog :=
 entC Try.prog 12 2 92 (lsN p s t nc d a2 n2 c2 c da ds sa ss ha hs so 0) (.exit 4) (lsF c da ds sa s t so) (by kernel_rfl) (by kernel_rfl) (ls_loop p s t nc d em c da ds sa ss ha hs so h1 h4 hso hc hda hds hsa hs2 ht ⟨0,by omega⟩)
end Go.Proofs.Ytliidiceljdgmaa
namespace Go.Proofs.Ytliidiceljdgmaa
open Go.RowKit
open Sy
set_option maxRecDepth 100000
def luL (v : Value) (hh : Sy.Heap) (p : Nat) (cs : List Nat) (d : List UInt8) (c da ds sa ss ha hs : Nat) : Sy.Steps :=
 [(68,16,layG v hh c da ds sa ss ha hs,[64,65,66]),(69,36,newA p,[]),(74,38,wrAC da d (codeZ cs cs.length (List.replicate (p * 256) 0)) (p * 256) (nGran p) (nWord p),[69,70,71,72])]
theorem luf_a (p s t : Nat) (cs : List Nat) (d : List UInt8) (rs : List Rl) (so : List Nat) (c da ds sa ss ha hs : Nat) (h1 : ArOk (List.replicate (p * 256) (0 : UInt8)) (p * 256) (nGran p) (nWord p)) (h2 : ∀ (x : Nat),x ∈ cs → x < 4294967296) (h3 : cs.length ≤ 4096) (h4 : 4 * cs.length ≤ p * 256) (h5 : ArOk (patA da d (codeZ cs cs.length (List.replicate (p * 256) (0 : UInt8)))) (p * 256) (nGran p) (nWord p)) (h6 : ∀ (r : Rl),r ∈ rs → RlFit da (p * 256) r) (h7 : rs.length ≤ 256) (h8 : da < 500000) (em : GmOk (some ⟨65,0,none⟩) rs.length (big + 65)) (q1 : 1 ≤ so.length) (q4 : so.length ≤ 4) (qso : ∀ (x : Nat),x ∈ so → x < 4096) (qc : c < 500000) (qda : da < 500000) (qds : ds < 500000) (qsa : sa < 500000) (qs2 : s ≤ 4096) (qt : t ≤ 2048) : evF Try.prog (baseF 3 (selSteps (luL (genJ p s t d (some ⟨65,0,none⟩) cs.length rs.length so.length (big+65)) (btH rs so) p cs d c da ds sa ss ha hs)) noBase) (lpEsc [ldaEnt cs (List.replicate (p * 256) (0 : UInt8)) (p * 256) (nGran p) (nWord p) c da ds sa ss ha hs h1 h2 h3 h4,ldrEnt p s t cs.length so.length d rs c da ds sa ss ha hs (patA da d (codeZ cs cs.length (List.replicate (p * 256) (0 : UInt8)))) (p * 256) (nGran p) (nWord p) h5 h6 h7 h8,lsEnt p s t cs.length d em c da ds sa ss ha hs so q1 q4 qso qc qda qds qsa qs2 qt]) 100 20 12 [genJ p s t d (some ⟨65,0,none⟩) cs.length rs.length so.length (big+65)] ⟨67,lqH cs rs so,[],0,[],0,True⟩ = some (Value.tuple { toList:=[Value.pointer (some ⟨72,0,none⟩),.slice (some ⟨75,0,none⟩) so.length 9223372036854775883,.int .i64 0] },{ n:=76,h:=[(75,⟨true,some (75,136),frL c da ds sa s t so so.length,none⟩),(72,⟨true,none,[Value.pointer (some ⟨71,0,none⟩),.slice (some ⟨69,0,none⟩) (p * 256) 9223372036854775877],none⟩),(71,⟨true,none,[Value.int .i64 (↑(nGran p)),.slice (some ⟨70,0,none⟩) (nWord p) 9223372036854775878],none⟩),(70,⟨true,some (70,1),v64 (wordsB (rlT da rs rs.length) (nWord p)),none⟩),(69,⟨true,some (69,1),u8s (relZ da rs (patA da d (codeZ cs cs.length (List.replicate (p * 256) (0 : UInt8)))) rs.length),none⟩),(73,⟨true,none,[Value.int .i64 (↑p),.int .i64 (↑s),.int .i64 (↑t),.slice (some ⟨64,0,none⟩) cs.length 9223372036854775872,.string ⟨⟨d⟩⟩,.slice (some ⟨65,0,none⟩) rs.length 9223372036854775873,.slice (some ⟨66,0,none⟩) so.length 9223372036854775874,.int .u32 0,.int .u32 (↑c),.int .u32 (↑da),.int .u32 (↑ds),.int .u32 (↑sa),.int .u32 (↑ss),.int .u32 (↑ha),.int .u32 (↑hs)],none⟩),(68,⟨true,none,[Value.int .u32 0,.int .u32 (↑c),.int .u32 (↑da),.int .u32 (↑ds),.int .u32 (↑sa),.int .u32 (↑ss),.int .u32 (↑ha),.int .u32 (↑hs)],none⟩),(67,⟨true,none,[Value.int .i64 (↑p),.int .i64 (↑s),.int .i64 (↑t),.slice (some ⟨64,0,none⟩) cs.length 9223372036854775872,.string ⟨⟨d⟩⟩,.slice (some ⟨65,0,none⟩) rs.length 9223372036854775873,.slice (some ⟨66,0,none⟩) so.length 9223372036854775874],none⟩),(64,⟨false,some (0,0),u32s cs,none⟩),(65,⟨false,some (0,0),rels rs,none⟩),(66,⟨false,some (0,0),u32s so,none⟩)],lo:=[(75,so.length),(70,nWord p),(69,p * 256),(70,nWord p),(69,p * 256),(70,nWord p),(69,p * 256),(70,nWord p),(69,p * 256)],esc:=0,T:=[],k:=0,O:=(((((True∧True∧(rr (Value.agg ⟨[.int .i64 (↑p),.int .i64 (↑s),.int .i64 (↑t),.slice (some ⟨64,0,none⟩) cs.length 9223372036854775872,.string ⟨⟨d⟩⟩,.slice (some ⟨65,0,none⟩) rs.length 9223372036854775873,.slice (some ⟨66,0,none⟩) so.length 9223372036854775874]⟩)∧True)∧((tt∧(rels rs).all (okV (fun l => l.blt 67) 3) = true∧tt∧tt∧tt∧True∧rels rs = List.map (rnV (lift 67 68 [64,65,66]) 3) (rels rs))∧(tt∧(u32s so).all (okV (fun l => l.blt 67) 3) = true∧tt∧tt∧tt∧True∧u32s so = List.map (rnV (lift 67 68 [64,65,66]) 3) (u32s so))∧True)∧True)∧True∧(rr (Value.int .i64 (↑p))∧True)∧True∧True)∧(rr (Value.pointer (some ⟨67,0,none⟩))∧rr (Value.pointer (some ⟨72,0,none⟩))∧rr (Value.slice none 0 0)∧rr (Value.int .i64 0)∧rr (Value.pointer (some ⟨68,0,none⟩))∧rr (Value.pointer (some ⟨73,0,none⟩))∧rr (Value.slice (some ⟨64,0,none⟩) cs.length 9223372036854775872)∧rr (Value.int .i64 (↑cs.length))∧rr (Value.int .i64 0)∧True)∧((tt∧tt∧True∧rr [Value.pointer (some ⟨71,0,none⟩),.slice (some ⟨69,0,none⟩) (p * 256) 9223372036854775877])∧(tt∧tt∧True∧rr [Value.int .i64 (↑(nGran p)),.slice (some ⟨70,0,none⟩) (nWord p) 9223372036854775878])∧(tt∧tt∧True∧rr (z64 (nWord p)))∧(tt∧tt∧True∧rr (u8s (List.replicate (p * 256) (0 : UInt8))))∧(tt∧tt∧True∧rr [Value.int .u32 0,.int .u32 (↑c),.int .u32 (↑da),.int .u32 (↑ds),.int .u32 (↑sa),.int .u32 (↑ss),.int .u32 (↑ha),.int .u32 (↑hs)])∧(tt∧tt∧True∧rr (u32s cs))∧True)∧(nWord p ≤ nWord p∧p * 256 ≤ p * 256∧True)∧True)∧True∧(rr (Value.pointer (some ⟨72,0,none⟩))∧rr (Value.int .u32 (↑da))∧rr (Value.string ⟨⟨d⟩⟩)∧True)∧((tt∧tt∧tt∧tt∧tt∧True∧rr [Value.pointer (some ⟨71,0,none⟩),.slice (some ⟨69,0,none⟩) (p * 256) 9223372036854775877])∧(tt∧tt∧tt∧tt∧tt∧True∧rr [Value.int .i64 (↑(nGran p)),.slice (some ⟨70,0,none⟩) (nWord p) 9223372036854775878])∧(tt∧(z64 (nWord p)).all (okV (fun l => l.blt 68) 3) = true∧tt∧tt∧tt∧True∧z64 (nWord p) = List.map (rnV (lift 68 74 [69,70,71,72]) 3) (z64 (nWord p)))∧(tt∧(u8s (codeZ cs cs.length (List.replicate (p * 256) (0 : UInt8)))).all (okV (fun l => l.blt 68) 3) = true∧tt∧tt∧tt∧True∧u8s (codeZ cs cs.length (List.replicate (p * 256) (0 : UInt8))) = List.map (rnV (lift 68 74 [69,70,71,72]) 3) (u8s (codeZ cs cs.length (List.replicate (p * 256) (0 : UInt8)))))∧True)∧(tt∧nWord p ≤ nWord p)∧(tt∧p * 256 ≤ p * 256)∧True)∧(rr (Value.pointer (some ⟨67,0,none⟩))∧rr (Value.pointer (some ⟨72,0,none⟩))∧rr (Value.slice none 0 0)∧rr (Value.int .i64 0)∧rr (Value.pointer (some ⟨68,0,none⟩))∧rr (Value.pointer (some ⟨73,0,none⟩))∧rr (Value.slice (some ⟨65,0,none⟩) rs.length 9223372036854775873)∧rr (Value.int .i64 (↑rs.length))∧rr (Value.int .i64 0)∧True)∧((tt∧tt∧True∧rr [Value.pointer (some ⟨71,0,none⟩),.slice (some ⟨69,0,none⟩) (p * 256) 9223372036854775877])∧(tt∧tt∧True∧rr [Value.int .i64 (↑(nGran p)),.slice (some ⟨70,0,none⟩) (nWord p) 9223372036854775878])∧(tt∧tt∧True∧v64 (wordsB (fun x => false) (nWord p)) = z64 (nWord p))∧(tt∧tt∧True∧rr (u8s (patA da d (codeZ cs cs.length (List.replicate (p * 256) (0 : UInt8))))))∧(tt∧tt∧True∧rr [Value.int .u32 0,.int .u32 (↑c),.int .u32 (↑da),.int .u32 (↑ds),.int .u32 (↑sa),.int .u32 (↑ss),.int .u32 (↑ha),.int .u32 (↑hs)])∧(tt∧tt∧True∧rr [Value.int .i64 (↑p),.int .i64 (↑s),.int .i64 (↑t),.slice (some ⟨64,0,none⟩) cs.length 9223372036854775872,.string ⟨⟨d⟩⟩,.slice (some ⟨65,0,none⟩) rs.length 9223372036854775873,.slice (some ⟨66,0,none⟩) so.length 9223372036854775874,.int .u32 0,.int .u32 (↑c),.int .u32 (↑da),.int .u32 (↑ds),.int .u32 (↑sa),.int .u32 (↑ss),.int .u32 (↑ha),.int .u32 (↑hs)])∧(tt∧tt∧True∧rr (rels rs))∧True)∧(nWord p ≤ nWord p∧p * 256 ≤ p * 256∧True)∧True)∧(rr (Value.pointer (some ⟨67,0,none⟩))∧rr (Value.pointer (some ⟨72,0,none⟩))∧rr (Value.slice none 0 0)∧rr (Value.int .i64 0)∧rr (Value.pointer (some ⟨68,0,none⟩))∧rr (Value.pointer (some ⟨73,0,none⟩))∧rr (Value.int .i64 (↑so.length))∧rr (Value.int .i64 0)∧True)∧((tt∧tt∧True∧rr [Value.int .i64 (↑p),.int .i64 (↑s),.int .i64 (↑t),.slice (some ⟨64,0,none⟩) cs.length 9223372036854775872,.string ⟨⟨d⟩⟩,.slice (some ⟨65,0,none⟩) rs.length 9223372036854775873,.slice (some ⟨66,0,none⟩) so.length 9223372036854775874,.int .u32 0,.int .u32 (↑c),.int .u32 (↑da),.int .u32 (↑ds),.int .u32 (↑sa),.int .u32 (↑ss),.int .u32 (↑ha),.int .u32 (↑hs)])∧(tt∧tt∧True∧rr (u32s so))∧True)∧True∧True : St }):=by kernel_rfl
theorem luy_a (p s t : Nat) (cs : List Nat) (d : List UInt8) (a2 : Option Addr) (c2 : Nat) (so : List Nat) (c da ds sa ss ha hs : Nat) (h1 : ArOk (List.replicate (p * 256) (0 : UInt8)) (p * 256) (nGran p) (nWord p)) (h2 : ∀ (x : Nat),x ∈ cs → x < 4294967296) (h3 : cs.length ≤ 4096) (h4 : 4 * cs.length ≤ p * 256) (em : GmOk a2 0 c2) (q1 : 1 ≤ so.length) (q4 : so.length ≤ 4) (qso : ∀ (x : Nat),x ∈ so → x < 4096) (qc : c < 500000) (qda : da < 500000) (qds : ds < 500000) (qsa : sa < 500000) (qs2 : s ≤ 4096) (qt : t ≤ 2048) : evF Try.prog (baseF 3 (selSteps (luL (genJ p s t d a2 cs.length 0 so.length c2) (btHY so) p cs d c da ds sa ss ha hs)) noBase) (lpEsc [ldaEnt cs (List.replicate (p * 256) (0 : UInt8)) (p * 256) (nGran p) (nWord p) c da ds sa ss ha hs h1 h2 h3 h4,lsEnt p s t cs.length d em c da ds sa ss ha hs so q1 q4 qso qc qda qds qsa qs2 qt]) 100 20 12 [genJ p s t d a2 cs.length 0 so.length c2] ⟨67,lqHY cs so,[],0,[],0,True⟩ = some (Value.tuple { toList:=[Value.pointer (some ⟨72,0,none⟩),.slice (some ⟨75,0,none⟩) so.length 9223372036854775883,.int .i64 0] },{ n:=76,h:=[(75,⟨true,some (75,136),frL c da ds sa s t so so.length,none⟩),(72,⟨true,none,[Value.pointer (some ⟨71,0,none⟩),.slice (some ⟨69,0,none⟩) (p * 256) 9223372036854775877],none⟩),(71,⟨true,none,[Value.int .i64 (↑(nGran p)),.slice (some ⟨70,0,none⟩) (nWord p) 9223372036854775878],none⟩),(70,⟨true,some (70,1),z64 (nWord p),none⟩),(69,⟨true,some (69,1),u8s (patA da d (codeZ cs cs.length (List.replicate (p * 256) (0 : UInt8)))),none⟩),(73,⟨true,none,[Value.int .i64 (↑p),.int .i64 (↑s),.int .i64 (↑t),.slice (some ⟨64,0,none⟩) cs.length 9223372036854775872,.string ⟨⟨d⟩⟩,.slice a2 0 c2,.slice (some ⟨66,0,none⟩) so.length 9223372036854775874,.int .u32 0,.int .u32 (↑c),.int .u32 (↑da),.int .u32 (↑ds),.int .u32 (↑sa),.int .u32 (↑ss),.int .u32 (↑ha),.int .u32 (↑hs)],none⟩),(68,⟨true,none,[Value.int .u32 0,.int .u32 (↑c),.int .u32 (↑da),.int .u32 (↑ds),.int .u32 (↑sa),.int .u32 (↑ss),.int .u32 (↑ha),.int .u32 (↑hs)],none⟩),(67,⟨true,none,[Value.int .i64 (↑p),.int .i64 (↑s),.int .i64 (↑t),.slice (some ⟨64,0,none⟩) cs.length 9223372036854775872,.string ⟨⟨d⟩⟩,.slice a2 0 c2,.slice (some ⟨66,0,none⟩) so.length 9223372036854775874],none⟩),(64,⟨false,some (0,0),u32s cs,none⟩),(66,⟨false,some (0,0),u32s so,none⟩)],lo:=[(75,so.length),(70,nWord p),(69,p * 256),(70,nWord p),(69,p * 256),(70,nWord p),(69,p * 256)],esc:=0,T:=[],k:=0,O:=((((True∧True∧(Value.agg ⟨[.int .i64 (↑p),.int .i64 (↑s),.int .i64 (↑t),.slice (some ⟨64,0,none⟩) cs.length 9223372036854775872,.string ⟨⟨d⟩⟩,.slice a2 0 c2,.slice (some ⟨66,0,none⟩) so.length 9223372036854775874]⟩ = Value.agg ⟨[.int .i64 (↑p),.int .i64 (↑s),.int .i64 (↑t),.slice (some ⟨64,0,none⟩) cs.length 9223372036854775872,.string ⟨⟨d⟩⟩,.slice (Option.map (rnA (lift 67 68 [64,65,66])) a2) 0 (rnC (lift 67 68 [64,65,66]) c2),.slice (some ⟨66,0,none⟩) so.length 9223372036854775874]⟩∧True)∧((tt∧(u32s so).all (okV (fun l => l.blt 67) 3) = true∧tt∧tt∧tt∧True∧u32s so = List.map (rnV (lift 67 68 [64,65,66]) 3) (u32s so))∧True)∧True)∧True∧(rr (Value.int .i64 (↑p))∧True)∧True∧True)∧(rr (Value.pointer (some ⟨67,0,none⟩))∧rr (Value.pointer (some ⟨72,0,none⟩))∧rr (Value.slice none 0 0)∧rr (Value.int .i64 0)∧rr (Value.pointer (some ⟨68,0,none⟩))∧rr (Value.pointer (some ⟨73,0,none⟩))∧rr (Value.slice (some ⟨64,0,none⟩) cs.length 9223372036854775872)∧rr (Value.int .i64 (↑cs.length))∧rr (Value.int .i64 0)∧True)∧((tt∧tt∧True∧rr [Value.pointer (some ⟨71,0,none⟩),.slice (some ⟨69,0,none⟩) (p * 256) 9223372036854775877])∧(tt∧tt∧True∧rr [Value.int .i64 (↑(nGran p)),.slice (some ⟨70,0,none⟩) (nWord p) 9223372036854775878])∧(tt∧tt∧True∧rr (z64 (nWord p)))∧(tt∧tt∧True∧rr (u8s (List.replicate (p * 256) (0 : UInt8))))∧(tt∧tt∧True∧rr [Value.int .u32 0,.int .u32 (↑c),.int .u32 (↑da),.int .u32 (↑ds),.int .u32 (↑sa),.int .u32 (↑ss),.int .u32 (↑ha),.int .u32 (↑hs)])∧(tt∧tt∧True∧rr (u32s cs))∧True)∧(nWord p ≤ nWord p∧p * 256 ≤ p * 256∧True)∧True)∧True∧(rr (Value.pointer (some ⟨72,0,none⟩))∧rr (Value.int .u32 (↑da))∧rr (Value.string ⟨⟨d⟩⟩)∧True)∧((tt∧tt∧tt∧tt∧tt∧True∧rr [Value.pointer (some ⟨71,0,none⟩),.slice (some ⟨69,0,none⟩) (p * 256) 9223372036854775877])∧(tt∧tt∧tt∧tt∧tt∧True∧rr [Value.int .i64 (↑(nGran p)),.slice (some ⟨70,0,none⟩) (nWord p) 9223372036854775878])∧(tt∧(z64 (nWord p)).all (okV (fun l => l.blt 68) 3) = true∧tt∧tt∧tt∧True∧z64 (nWord p) = List.map (rnV (lift 68 74 [69,70,71,72]) 3) (z64 (nWord p)))∧(tt∧(u8s (codeZ cs cs.length (List.replicate (p * 256) (0 : UInt8)))).all (okV (fun l => l.blt 68) 3) = true∧tt∧tt∧tt∧True∧u8s (codeZ cs cs.length (List.replicate (p * 256) (0 : UInt8))) = List.map (rnV (lift 68 74 [69,70,71,72]) 3) (u8s (codeZ cs cs.length (List.replicate (p * 256) (0 : UInt8)))))∧True)∧(tt∧nWord p ≤ nWord p)∧(tt∧p * 256 ≤ p * 256)∧True)∧(rr (Value.pointer (some ⟨67,0,none⟩))∧rr (Value.pointer (some ⟨72,0,none⟩))∧rr (Value.slice none 0 0)∧rr (Value.int .i64 0)∧rr (Value.pointer (some ⟨68,0,none⟩))∧rr (Value.pointer (some ⟨73,0,none⟩))∧rr (Value.int .i64 (↑so.length))∧rr (Value.int .i64 0)∧True)∧((tt∧tt∧True∧rr [Value.int .i64 (↑p),.int .i64 (↑s),.int .i64 (↑t),.slice (some ⟨64,0,none⟩) cs.length 9223372036854775872,.string ⟨⟨d⟩⟩,.slice a2 0 c2,.slice (some ⟨66,0,none⟩) so.length 9223372036854775874,.int .u32 0,.int .u32 (↑c),.int .u32 (↑da),.int .u32 (↑ds),.int .u32 (↑sa),.int .u32 (↑ss),.int .u32 (↑ha),.int .u32 (↑hs)])∧(tt∧tt∧True∧rr (u32s so))∧True)∧True∧True : St }):=by kernel_rfl
theorem luF2_con (p s t : Nat) (cs : List Nat) (d : List UInt8) (rs : List Rl) (so : List Nat) (c da ds sa ss ha hs : Nat) (h : LqOk p s t cs d so c da ds sa ss ha hs) (h6 : ∀ r ∈ rs,RlFit da (p * 256) r) (h7 : rs.length ≤ 256) (j : Nat) (hj : so.length = j) (j1 : 1 ≤ j) (j4 : j ≤ 4)
  (hlay : ConOk Try.prog 16 3 (layG (genJ p s t d (some ⟨65,0,none⟩) cs.length rs.length so.length (big + 65)) (btH rs so) c da ds sa ss ha hs)) :
  ConOk Try.prog 12 3 (luCon (genJ p s t d (some ⟨65,0,none⟩) cs.length rs.length so.length (big + 65)) (lqH cs rs so) p (relZ da rs (zsB p cs da d) rs.length) (rlT da rs rs.length) (frCp c da ds sa s t so j) j):=by
 have e0:=h.hc; have e2:=h.hda; have e3:=h.hds; have e4:=h.hsa; have e5:=h.fit; have e6:=h.p2
 have hN : 4 * cs.length ≤ p * 256:=by omega
 have f1 : ∀ (zs : List UInt8) (p : Nat → Bool),(u8s zs).all (okV p 3) = true:=fun zs p => flat_all (u8s_flatA _)
 have f2 : ∀ (zs : List UInt8) (σ : Nat → Nat),(u8s zs).map (rnV σ 3) = u8s zs:=fun zs σ => flat_map (u8s_flatA _)
 have f3 : ∀ (xs : List Nat) (p : Nat → Bool),(u32s xs).all (okV p 3) = true:=fun xs p => flat_all (u32s_flat _)
 have f4 : ∀ (xs : List Nat) (σ : Nat → Nat),(u32s xs).map (rnV σ 3) = u32s xs:=fun xs σ => flat_map (u32s_flat _)
 have f5 : ∀ (p : Nat → Bool),(rels rs).all (okV p 3) = true:=fun p => flat_all (rels_flat rs)
 have f6 : ∀ (σ : Nat → Nat),(rels rs).map (rnV σ 3) = rels rs:=fun σ => flat_map (rels_flat rs)
 have hg : okV (fun l => Nat.blt l 67) 3 (genJ p s t d (some ⟨65,0,none⟩) cs.length rs.length so.length (big + 65)) = true:=genJ_ok rfl rfl _ _ _ _ rfl _ _
 subst hj
 have base : SoundCall Try.prog (baseF 3 (selSteps (luL (genJ p s t d (some ⟨65,0,none⟩) cs.length rs.length so.length (big + 65)) (btH rs so) p cs d c da ds sa ss ha hs)) noBase):=by
  have hz:=newA_ok p h.p1 h.p2
  have hzl : (codeZ cs cs.length (List.replicate (p * 256) 0)).length = p * 256:=by rw [codeZ_len _ _ _ (by rw [hz.len]; omega),hz.len]
  refine baseF_ok (selSteps_ok fun x hx => ?_) (noBase_ok _)
  simp only [rr, tt, luL,List.mem_cons,List.not_mem_nil,or_false] at hx
  rcases hx with rfl | rfl | rfl
  ·exact ⟨hlay,⟨fun x hx => by cases hx⟩⟩
  ·exact newA_con p h.p1 h.p2
  ·exact wrA_con da d _ _ _ _ ⟨hzl,hz.tags,hz.words,hz.few,hz.big⟩ (by omega) (by omega)
 have hr:=luf_a p s t cs d rs so c da ds sa ss ha hs (newA_ok p h.p1 h.p2) h.hcs h.n1 hN (zsB_ok h) h6 h7 (by omega) (gm_fill _) j1 j4 h.hso (by omega) (by omega) (by omega) (by omega) h.s2 h.t2
 refine conOk_run (run_ok (L:=100) ar_names base (lpEsc_ok _) 20) (luCon_wf p _ _ _ _ hg (lqH_ok (fun l hl => blt_yes hl) cs rs so)) hr ?_ (lu_ends p _ _ _ _ 75 (by omega) rfl rfl rfl rfl rfl rfl rfl rfl rfl (frL_cp _ _ _ _ _ _ _ _) rfl ⟨Nat.le_refl _,Nat.le_refl _⟩)
 simp (disch:=omega) only [rr, tt, gm_rn (gm_fill _),f1,f2,f3,f4,f5,f6,z64_ok,z64_map,v64_z64,zsB,decide_eq_true,decide_eq_false,Bool.and_self,cond_true,and_true,true_and,and_self,Nat.le_refl]
theorem luY2_con (p s t : Nat) (cs : List Nat) (d : List UInt8) (a2 : Option Addr) (c2 : Nat) (em : EmOk a2 c2) (so : List Nat) (c da ds sa ss ha hs : Nat) (h : LqOk p s t cs d so c da ds sa ss ha hs) (j : Nat) (hj : so.length = j) (j1 : 1 ≤ j) (j4 : j ≤ 4)
  (hlay : ConOk Try.prog 16 3 (layG (genJ p s t d a2 cs.length 0 so.length c2) (btHY so) c da ds sa ss ha hs)) :
  ConOk Try.prog 12 3 (luCon (genJ p s t d a2 cs.length 0 so.length c2) (lqHY cs so) p (zsB p cs da d) (fun _ => false) (frCp c da ds sa s t so j) j):=by
 have e0:=h.hc; have e2:=h.hda; have e3:=h.hds; have e4:=h.hsa; have e5:=h.fit; have e6:=h.p2
 have hN : 4 * cs.length ≤ p * 256:=by omega
 have f1 : ∀ (zs : List UInt8) (p : Nat → Bool),(u8s zs).all (okV p 3) = true:=fun zs p => flat_all (u8s_flatA _)
 have f2 : ∀ (zs : List UInt8) (σ : Nat → Nat),(u8s zs).map (rnV σ 3) = u8s zs:=fun zs σ => flat_map (u8s_flatA _)
 have f3 : ∀ (xs : List Nat) (p : Nat → Bool),(u32s xs).all (okV p 3) = true:=fun xs p => flat_all (u32s_flat _)
 have f4 : ∀ (xs : List Nat) (σ : Nat → Nat),(u32s xs).map (rnV σ 3) = u32s xs:=fun xs σ => flat_map (u32s_flat _)
 have hs2:=em (fun l => Nat.blt l 67) 2 (fun l hl => blt_yes hl)
 have hg : okV (fun l => Nat.blt l 67) 3 (genJ p s t d a2 cs.length 0 so.length c2) = true:=genJ_ok rfl rfl _ _ _ _ hs2 _ _
 subst hj
 have base : SoundCall Try.prog (baseF 3 (selSteps (luL (genJ p s t d a2 cs.length 0 so.length c2) (btHY so) p cs d c da ds sa ss ha hs)) noBase):=by
  have hz:=newA_ok p h.p1 h.p2
  have hzl : (codeZ cs cs.length (List.replicate (p * 256) 0)).length = p * 256:=by rw [codeZ_len _ _ _ (by rw [hz.len]; omega),hz.len]
  refine baseF_ok (selSteps_ok fun x hx => ?_) (noBase_ok _)
  simp only [rr, tt, luL,List.mem_cons,List.not_mem_nil,or_false] at hx
  rcases hx with rfl | rfl | rfl
  ·exact ⟨hlay,⟨fun x hx => by cases hx⟩⟩
  ·exact newA_con p h.p1 h.p2
  ·exact wrA_con da d _ _ _ _ ⟨hzl,hz.tags,hz.words,hz.few,hz.big⟩ (by omega) (by omega)
 have hr:=luy_a p s t cs d a2 c2 so c da ds sa ss ha hs (newA_ok p h.p1 h.p2) h.hcs h.n1 hN (fun q d hq => em q d hq) j1 j4 h.hso (by omega) (by omega) (by omega) (by omega) h.s2 h.t2
 refine conOk_run (run_ok (L:=100) ar_names base (lpEsc_ok _) 20) (luCon_wf p _ _ _ _ hg (lqHY_ok (fun l hl => blt_yes hl) cs so)) hr ?_ (lu_ends p _ _ _ _ 75 (by omega) rfl rfl rfl rfl rfl (v64_z64 _).symm rfl rfl rfl (frL_cp _ _ _ _ _ _ _ _) rfl ⟨Nat.le_refl _,Nat.le_refl _⟩)
 simp (disch:=omega) only [rr, tt, em_rn em,f1,f2,f3,f4,z64_ok,z64_map,decide_eq_true,decide_eq_false,Bool.and_self,cond_true,and_true,true_and,and_self,Nat.le_refl]
end Go.Proofs.Ytliidiceljdgmaa
namespace Go.Proofs.Ytliidiceljdgmaa
open Go.RowKit
open Sy
set_option maxRecDepth 100000
theorem img_more {P S T : Nat} {cs : List Nat} {d : List UInt8} {rs : List Rl} {so : List Nat} (he : errOf (P : Nat) (S : Nat) (T : Nat) cs.length d rs so = 0) (l1 : cs.length ≤ 4096) (l2 : d.length ≤ 16384) (l4 : so.length ≤ 4) (n2 : ∀ x ∈ rs,RlOk x) (g : StOk P S (r256 (4 * cs.length) + r256 d.length) so.length) :
  WnOk P S T (r256 (4 * cs.length)) (r256 (4 * cs.length)) (r256 d.length) (r256 (4 * cs.length) + r256 d.length) (layFrom S cs.length so.length d.length) so.length ∧ RlSet (r256 (4 * cs.length)) (r256 (4 * cs.length) + r256 d.length) (layFrom S cs.length so.length d.length) rs ∧ (∀ k,k < so.length → 4 * so.getD k 0 ≤ r256 (4 * cs.length)):=by
 obtain ⟨e2,e3,e4,e5⟩:=err_all5 he
 obtain ⟨r1,r2,r3⟩:=r256_is (4 * cs.length)
 obtain ⟨r4,r5,r6⟩:=r256_is d.length
 have e20 : cs.length ≠ 0:=fun h => by
  have:=e2
  unfold isArg at this
  simp [h] at this
 simp [isArg] at e2
 have hfr : layFrom S cs.length so.length d.length = r256 (4 * cs.length) + r256 d.length + S * so.length:=rfl
 have hsn : so.length * S = S * so.length:=Nat.mul_comm _ _
 have hSs : S * so.length ≤ S * 4:=Nat.mul_le_mul_left S l4
 have hpos : r256 (4 * cs.length) + r256 d.length ≤ layFrom S cs.length so.length d.length:=by rw [hfr]; omega
 have hrl : ∀ n,n < rs.length → _:=fun n hn => by
  unfold isBad at e5
  have hg:=List.any_eq_false.1 e5 n (List.mem_range.2 hn)
  have hg2 : relRight (T : Int) cs.length d.length 0 (r256 (4 * cs.length)) (rl0 rs n) (behindN rs n) = true:=by simpa [relGood] using hg
  have hm : rl0 rs n ∈ rs:=by
   unfold rl0; rw [List.getD_eq_getElem?_getD,List.getElem?_eq_getElem hn]; exact List.getElem_mem _
  exact rl_more (c:=r256 (4 * cs.length)) (sa:=r256 (4 * cs.length) + r256 d.length) (n2 _ hm) l1 l2 r1 (by omega) (by omega) hg2
 have hmem : ∀ r ∈ rs,∃ n,n < rs.length ∧ r = rl0 rs n:=fun r hr => by
  obtain ⟨n,hn,rfl⟩:=List.getElem_of_mem hr
  exact ⟨n,hn,by unfold rl0; rw [List.getD_eq_getElem?_getD,List.getElem?_eq_getElem hn]; rfl⟩
 refine ⟨⟨r2,by omega,r5,rfl,rfl,g.sl,by omega,by omega,l4,by omega,by rw [hfr,hsn]; exact Nat.le_refl _⟩,⟨fun k hk => (hrl k hk).1,fun r hr => ?_,fun r hr => ?_⟩,fun k hk => ?_⟩
 ·obtain ⟨n,hn,rfl⟩:=hmem r hr
  exact (hrl n hn).2.1
 ·obtain ⟨n,hn,rfl⟩:=hmem r hr
  have:=(hrl n hn).2.2
  exact ⟨by omega,this.2⟩
 ·unfold isFar at e3
  have:=List.any_eq_false.1 e3 k (List.mem_range.2 hk)
  simp at this
  rw [List.getD_eq_getElem?_getD]
  omega
theorem withinF (p s t : Nat) (cs : List Nat) (d : List UInt8) (rs : List Rl) (so : List Nat) (c da ds sa ss ha hs : Nat) (h : LqOk p s t cs d so c da ds sa ss ha hs) (hw : WnOk p s t c da ds sa ha so.length) (hhs : ha < 4294967296 ∧ hs < 4294967296) (h6 : ∀ r ∈ rs,RlFit da (p * 256) r) (hset : RlSet da sa ha rs) (h7 : rs.length ≤ 256) (hso : ∀ k,k < so.length → 4 * so.getD k 0 ≤ c) (j1 : 1 ≤ so.length)
  (hlay : ConOk Try.prog 16 3 (layG (genJ p s t d (some ⟨65,0,none⟩) cs.length rs.length so.length (big + 65)) (btH rs so) c da ds sa ss ha hs)) :
  ∃ (call : CallK) (T : List (Nat × Bool)) (q : Prop),SoundCall Try.prog call ∧ obs (call 6 [genJ p s t d (some ⟨65,0,none⟩) cs.length rs.length so.length (big + 65)] ⟨67,lqH cs rs so,[],0,T,0,True⟩) = some (.bool true,q) ∧ q:=by
 have e0:=h.hc; have e2:=h.hda; have e3:=h.hds; have e4:=h.hsa; have e5:=h.fit; have e6:=h.p2; have e7:=h.s2; have e8:=h.t2
 have hz:=zsB_ok h
 have hzl:=relZ_len da rs (zsB p cs da d) (p * 256) hz.len h6 rs.length (Nat.le_refl _)
 have har : ArOk (relZ da rs (zsB p cs da d) rs.length) (p * 256) (nGran p) (nWord p):=⟨hzl,hz.tags,hz.words,hz.few,hz.big⟩
 have hb0 : ∀ x ∈ bootL c da ds sa s t so.length rs,BtOk x ha hs:=boot_ok hw hset (fun r hr => ⟨(h6 r hr).ok,(h6 r hr).v⟩)
 have hb : ∀ x ∈ bootL c da ds sa s t so.length rs,CpOk x:=fun x hx => (hb0 x hx).ok
 have hblen : (bootL c da ds sa s t so.length rs).length ≤ 1000:=by
  have:=bo3_len c da ds sa s t so.length
  have:=hw.ns1
  unfold bootL; rw [List.length_append,rlL_len]; omega
 obtain ⟨hf,hpc⟩:=frame_ok hw rfl hb0 hso
 have hg : ∀ g,g < p → PgOk (relZ da rs (zsB p cs da d) rs.length) (rlT da rs rs.length) (p * 256) (nGran p) (nWord p) (bootL c da ds sa s t so.length rs) g:=fun g hg => by
  by_cases ht : tgK (rlT da rs rs.length) g 16 = []
  ·left
   refine (tg0_con g _ _ _ _ _ har (by omega) (fun i hi => ?_)).1
   cases hfi : rlT da rs rs.length (16 * g + i)
   ·rfl
   ·exfalso
    have : ∀ k,i < k → tgK (rlT da rs rs.length) g k ≠ []:=fun k => by
     induction k with
     | zero => intro h; omega
     | succ k ih =>
      intro hik hnil
      unfold tgK at hnil
      by_cases hk : i = k
      ·subst hk
       rw [hfi] at hnil
       simp at hnil
      ·cases hfk : rlT da rs rs.length (16 * g + k) <;> rw [hfk] at hnil
       ·exact ih (by omega) hnil
       ·simp at hnil
    exact this 16 hi ht
  ·right
   refine ⟨_,tgK_len _ _ _,fun a ha => ?_,tgY_con g _ _ _ _ _ _ har (by omega) rfl ht⟩
   obtain ⟨i,h1,h2,rfl⟩:=tgK_mem _ _ _ _ ha
   obtain ⟨k,h3,h4⟩:=rlT_yes _ _ _ _ h2
   have hm : rl0 rs k ∈ rs:=by
    unfold rl0; rw [List.getD_eq_getElem?_getD,List.getElem?_eq_getElem h3]; exact List.getElem_mem _
   have hfit:=h6 _ hm
   have hal:=hfit.al
   have hadr : (16 * g + i) * 16 = da + (rl0 rs k).at_:=by omega
   have hx : rlCp da (rl0 rs k) ∈ bootL c da ds sa s t so.length rs:=mem_boot (.inr (.inr (.inr (.inr ⟨k,h3,rfl⟩))))
   have hxo:=(hb0 _ hx).ok
   refine ⟨rlCp da (rl0 rs k),hxo,⟨_,hx,mk_self hfit.v (hset.ends _ hm).2⟩,?_⟩
   rw [hadr]
   refine lcp_con _ _ _ _ _ _ _ har hfit.al hfit.fit ?_ (by rw [h4]; exact h2) hxo hfit.snd hfit.v
   exact relZ_at hz.len h6 hset rs.length k h3 (Nat.le_refl _)
 have hload:=luF2_con p s t cs d rs so c da ds sa ss ha hs h h6 h7 so.length rfl j1 hw.ns1 hlay
 have hboot:=bootF_con p s t cs.length d rs so c da ds sa ss ha hs hw.ns1 e7 (by omega) h7 (fun r hr => (h6 r hr).ok) (by omega) (by omega) (by omega) e8 hlay
 have hem : ∀ q : Nat → Bool,(∀ l,l < 67 → q l = true) → okV q 3 (.slice (some ⟨65,0,none⟩) rs.length (big + 65)) = true:=fun q hq => by
  simp [okV,bndA,hq 65 (by omega),big]
 have hfl:=frCp_len c da ds sa s t so so.length
 obtain ⟨zs,hzs⟩ : ∃ zs,zs = relZ da rs (zsB p cs da d) rs.length:=⟨_,rfl⟩
 obtain ⟨f,hff⟩ : ∃ f,f = rlT da rs rs.length:=⟨_,rfl⟩
 obtain ⟨bl,hbl⟩ : ∃ bl,bl = bootL c da ds sa s t so.length rs:=⟨_,rfl⟩
 obtain ⟨fl,hfle⟩ : ∃ fl,fl = frCp c da ds sa s t so so.length:=⟨_,rfl⟩
 rw [← hbl] at hb0 hb hblen hf hpc hboot
 rw [← hfle] at hf hpc hload hfl
 rw [← hzs,← hff] at hload
 rw [← hzs,← hff,← hbl] at hg
 have f1 : ∀ (zs : List UInt8) (p : Nat → Bool),(u8s zs).all (okV p 3) = true:=fun zs p => flat_all (u8s_flatA _)
 have f2 : ∀ (zs : List UInt8) (σ : Nat → Nat),(u8s zs).map (rnV σ 3) = u8s zs:=fun zs σ => flat_map (u8s_flatA _)
 have f3 : ∀ (xs : List Nat) (p : Nat → Bool),(u32s xs).all (okV p 3) = true:=fun xs p => flat_all (u32s_flat _)
 have f4 : ∀ (xs : List Nat) (σ : Nat → Nat),(u32s xs).map (rnV σ 3) = u32s xs:=fun xs σ => flat_map (u32s_flat _)
 have f5 : ∀ (p : Nat → Bool),(rels rs).all (okV p 3) = true:=fun p => flat_all (rels_flat rs)
 have f6 : ∀ (σ : Nat → Nat),(rels rs).map (rnV σ 3) = rels rs:=fun σ => flat_map (rels_flat rs)
 refine ⟨_,_,_,run_ok (L:=100) ar_names (baseF_ok (selSteps_ok fun x hx => ?_) (noBase_ok _)) (lpEsc_ok _) 20,wnf_a p s t cs d rs so so.length c da ds sa ss ha hs zs f fl bl hem hb0 hblen hhs.1 hhs.2 hb hf hfl hw.ns1 hpc e6 hg,?_⟩
 ·simp only [rr, tt, wnL,List.mem_cons,List.not_mem_nil,or_false] at hx
  rcases hx with rfl | rfl | rfl | rfl
  ·exact lw_con
  ·exact ⟨hload,luCon_flat _ _ _ _ _ _ _⟩
  ·exact ⟨hboot,btC_flat _ _ _⟩
  ·exact ⟨hlay,⟨fun x hx => by cases hx⟩⟩
 ·simp only [rr, tt, f1,f2,f3,f4,f5,f6,cp_all,cp_map,and_true,true_and,and_self,Nat.le_refl]
theorem withinY (p s t : Nat) (cs : List Nat) (d : List UInt8) (a2 : Option Addr) (c2 : Nat) (em : EmOk a2 c2) (so : List Nat) (c da ds sa ss ha hs : Nat) (h : LqOk p s t cs d so c da ds sa ss ha hs) (hw : WnOk p s t c da ds sa ha so.length) (hhs : ha < 4294967296 ∧ hs < 4294967296) (hso : ∀ k,k < so.length → 4 * so.getD k 0 ≤ c) (j1 : 1 ≤ so.length)
  (hlay : ConOk Try.prog 16 3 (layG (genJ p s t d a2 cs.length 0 so.length c2) (btHY so) c da ds sa ss ha hs)) :
  ∃ (call : CallK) (T : List (Nat × Bool)) (q : Prop),SoundCall Try.prog call ∧ obs (call 6 [genJ p s t d a2 cs.length 0 so.length c2] ⟨67,lqHY cs so,[],0,T,0,True⟩) = some (.bool true,q) ∧ q:=by
 have e0:=h.hc; have e2:=h.hda; have e3:=h.hds; have e4:=h.hsa; have e5:=h.fit; have e6:=h.p2; have e7:=h.s2; have e8:=h.t2
 have hz:=zsB_ok h
 have har : ArOk (zsB p cs da d) (p * 256) (nGran p) (nWord p):=hz
 have hb0 : ∀ x ∈ bootL c da ds sa s t so.length [],BtOk x ha hs:=boot_ok hw ⟨fun k hk => by simp at hk,fun r hr => (by cases hr),fun r hr => (by cases hr)⟩ (fun r hr => by cases hr)
 have hb : ∀ x ∈ bootL c da ds sa s t so.length [],CpOk x:=fun x hx => (hb0 x hx).ok
 have hblen : (bootL c da ds sa s t so.length []).length ≤ 1000:=by
  have:=bo3_len c da ds sa s t so.length
  have:=hw.ns1
  unfold bootL; rw [List.length_append,rlL_len]; simp; omega
 obtain ⟨hf,hpc⟩:=frame_ok hw rfl hb0 hso
 have hg : ∀ g,g < p → PgOk (zsB p cs da d) ((fun _ => false : Nat → Bool)) (p * 256) (nGran p) (nWord p) (bootL c da ds sa s t so.length []) g:=fun g hg => by
  left
  exact (tg0_con g _ _ _ _ _ har (by omega) (fun i hi => rfl)).1
 have hload:=luY2_con p s t cs d a2 c2 em so c da ds sa ss ha hs h so.length rfl j1 hw.ns1 hlay
 have hbn : bootL c da ds sa s t so.length [] = bo3 c da ds sa s t so.length:=List.append_nil _
 have hboot:=bootY_con p s t cs.length d a2 c2 em so c da ds sa ss ha hs hw.ns1 e7 (by omega) (by omega) (by omega) (by omega) e8 hlay
 rw [← hbn] at hboot
 have hem : ∀ q : Nat → Bool,(∀ l,l < 67 → q l = true) → okV q 3 (.slice a2 0 c2) = true:=fun q hq => em q 3 hq
 have hfl:=frCp_len c da ds sa s t so so.length
 obtain ⟨zs,hzs⟩ : ∃ zs,zs = zsB p cs da d:=⟨_,rfl⟩
 obtain ⟨f,hff⟩ : ∃ f,f = (fun _ => false : Nat → Bool):=⟨_,rfl⟩
 obtain ⟨bl,hbl⟩ : ∃ bl,bl = bootL c da ds sa s t so.length []:=⟨_,rfl⟩
 obtain ⟨fl,hfle⟩ : ∃ fl,fl = frCp c da ds sa s t so so.length:=⟨_,rfl⟩
 rw [← hbl] at hb0 hb hblen hf hpc hboot
 rw [← hfle] at hf hpc hload hfl
 rw [← hzs,← hff] at hload
 rw [← hzs,← hff,← hbl] at hg
 have f1 : ∀ (zs : List UInt8) (p : Nat → Bool),(u8s zs).all (okV p 3) = true:=fun zs p => flat_all (u8s_flatA _)
 have f2 : ∀ (zs : List UInt8) (σ : Nat → Nat),(u8s zs).map (rnV σ 3) = u8s zs:=fun zs σ => flat_map (u8s_flatA _)
 have f3 : ∀ (xs : List Nat) (p : Nat → Bool),(u32s xs).all (okV p 3) = true:=fun xs p => flat_all (u32s_flat _)
 have f4 : ∀ (xs : List Nat) (σ : Nat → Nat),(u32s xs).map (rnV σ 3) = u32s xs:=fun xs σ => flat_map (u32s_flat _)
 refine ⟨_,_,_,run_ok (L:=100) ar_names (baseF_ok (selSteps_ok fun x hx => ?_) (noBase_ok _)) (lpEsc_ok _) 20,wny_a p s t cs d a2 c2 so so.length c da ds sa ss ha hs zs f fl bl hem hb0 hblen hhs.1 hhs.2 hb hf hfl hw.ns1 hpc e6 hg,?_⟩
 ·simp only [rr, tt, wnL,List.mem_cons,List.not_mem_nil,or_false] at hx
  rcases hx with rfl | rfl | rfl | rfl
  ·exact lw_con
  ·exact ⟨hload,luCon_flat _ _ _ _ _ _ _⟩
  ·exact ⟨hboot,btC_flat _ _ _⟩
  ·exact ⟨hlay,⟨fun x hx => by cases hx⟩⟩
 ·simp only [rr, tt, em_rn em,f1,f2,f3,f4,cp_all,cp_map,and_true,true_and,and_self,Nat.le_refl]
end Go.Proofs.Ytliidiceljdgmaa
namespace Go.Proofs.Ytliidiceljdgmaa
open Go.ChangeShapes Go.WideShapes Go.ChangeAt Go.RowKit
open Sy
set_option maxRecDepth 100000
theorem within_run (i j k : Nat) (p s t : Int) (d : List UInt8) (cs : List Nat) (rs : List Rl) (so : List Nat) (h1 : slOk i cs.length) (h2 : slOk j rs.length) (h3 : slOk k so.length) (n1 : ∀ x ∈ cs,x < 4294967296) (n2 : ∀ x ∈ rs,RlOk x) (n3 : ∀ x ∈ so,x < 4294967296) :
  ∃ (call : CallK) (hs : Sy.Heap),SoundCall Try.prog call ∧ (∀ g b,Sy.look hs g = some b → Sy.look (inH i j k cs rs so) g = some b) ∧ hs.all (fun y => !y.2.rw) = true ∧ ∃ (T : List (Nat × Bool)) (q : Prop),obs (call 6 [inV i j k p s t d cs rs so] ⟨67,hs,[],0,T,0,True⟩) = some (.bool true,q) ∧ q:=by
 obtain ⟨a1,c1,q1⟩:=sl_form (g:=64) h1
 obtain ⟨a2,c2,q2⟩:=sl_form (g:=65) h2
 obtain ⟨a3,c3,q3⟩:=sl_form (g:=66) h3
 have hse : ∀ e : Int,(e == e) = true:=fun e => by simp
 have f3 : ∀ (xs : List Nat) (p : Nat → Bool),(u32s xs).all (okV p 3) = true:=fun xs p => flat_all (u32s_flat _)
 have f4 : ∀ (xs : List Nat) (σ : Nat → Nat),(u32s xs).map (rnV σ 3) = u32s xs:=fun xs σ => flat_map (u32s_flat _)
 have f1 : ∀ (p : Nat → Bool),(rels rs).all (okV p 3) = true:=fun p => flat_all (rels_flat rs)
 have f2 : ∀ (σ : Nat → Nat),(rels rs).map (rnV σ 3) = rels rs:=fun σ => flat_map (rels_flat rs)
 by_cases h0 : isLong cs.length d.length rs.length so.length = true ∨ cs.length = 0 ∨ so.length = 0
 ·have hv : inV i j k p s t d cs rs so = genI p s t d a1 a2 a3 cs.length rs.length so.length c1 c2 c3:=by unfold inV genI; rw [q1,q2,q3]
  rw [hv]
  have hok : okV (fun l => Nat.blt l 67) 3 (genI p s t d a1 a2 a3 cs.length rs.length so.length c1 c2 c3) = true:=by
   have b1 : okV (fun l => Nat.blt l 67) 2 (.slice a1 cs.length c1) = true:=by rw [← q1]; exact sl_okV rfl
   have b2 : okV (fun l => Nat.blt l 67) 2 (.slice a2 rs.length c2) = true:=by rw [← q2]; exact sl_okV rfl
   have b3 : okV (fun l => Nat.blt l 67) 2 (.slice a3 so.length c3) = true:=by rw [← q3]; exact sl_okV rfl
   show List.all [Value.int .i64 p,.int .i64 s,.int .i64 t,.slice a1 cs.length c1,.string ⟨⟨d⟩⟩,.slice a2 rs.length c2,.slice a3 so.length c3] (okV (fun l => Nat.blt l 67) 2) = true
   simp only [rr, tt, List.all_cons,List.all_nil,b1,b2,b3,Bool.and_true,Bool.true_and]
   rfl
  have hl:=layE_con p s t d a1 a2 a3 cs.length rs.length so.length c1 c2 c3 h0 hok
  obtain ⟨e,he⟩ : ∃ e : Int,(bif isLong cs.length d.length rs.length so.length then (3 : Int) else 2) = e:=⟨_,rfl⟩
  have h0' : (e != 0) = true:=by rw [← he]; cases isLong cs.length d.length rs.length so.length <;> rfl
  rw [he] at hl
  have hbt:=bootE_con p s t e d a1 a2 a3 cs.length rs.length so.length c1 c2 c3 hok h0' hl
  have hr:=wne_g p s t e d a1 a2 a3 cs.length rs.length so.length c1 c2 c3 []
  refine ⟨_,[],run_ok (L:=100) ar_names (baseT_ok (selStepsT_ok fun x hx => ?_) (baseC_ok fun f args s c ρ q h hq => ?_)) (noLoop_ok _) 20,fun g b hb => (by cases hb),rfl,_,_,hr,?_⟩
  ·simp only [rr, tt, wnEM,List.mem_cons,List.not_mem_nil,or_false] at hx
   rcases hx with rfl | rfl | rfl | rfl
   ·exact ⟨hl,⟨fun x hx => (by cases hx),fun x hx => (by cases hx)⟩⟩
   ·exact ⟨hbt,⟨fun x hx => (by cases hx),fun x hx => (by cases hx)⟩⟩
   ·exact ⟨hbt,⟨fun x hx => (by cases hx),fun x hx => (by cases hx)⟩⟩
   ·exact ⟨hbt,⟨fun x hx => (by cases hx),fun x hx => (by cases hx)⟩⟩
  ·unfold selLbW at h
   obtain ⟨h3,h4⟩:=bif_some h
   have h3:=eB h3
   subst h3
   cases h4
   exact lw_con.1
  ·simp only [rr, tt, h0',hse,and_true,true_and,and_self]
 ·have hi : i = 2:=by have:=h1.1; have:=h1.2; omega
  have hk : k = 2:=by have:=h3.1; have:=h3.2; omega
  subst hi hk
  have hlf : isLong cs.length d.length rs.length so.length = false:=by
   cases hb : isLong cs.length d.length rs.length so.length
   ·rfl
   ·exact absurd (.inl hb) h0
  have hs4 : cs.length ≤ 4096 ∧ d.length ≤ 16384 ∧ rs.length ≤ 256 ∧ so.length ≤ 4:=by
   simp [isLong] at hlf
   omega
  have hi : ImOk rs so:=⟨n2,n3,by omega⟩
  by_cases hrs : rs = []
  ·subst hrs
   have em : EmOk a2 c2:=fun q d hq => by
    have : sl j 65 0 = .slice a2 0 c2:=q2
    rw [← this]; exact sl_okV (hq 65 (by omega))
   have hv : inV 2 j 2 p s t d cs [] so = genI p s t d (some ⟨64,0,none⟩) a2 (some ⟨66,0,none⟩) cs.length 0 so.length (big + 64) c2 (big + 66):=by
    unfold inV genI; rw [q2]; rfl
   rw [hv]
   have look6 : ∀ g b,Sy.look (btHY so) g = some b → Sy.look (inH 2 j 2 cs [] so) g = some b:=fun g b hb => by
    unfold btHY at hb
    rw [look_cons] at hb
    split at hb
    ·rename_i hg; subst hg; rw [← hb]; unfold inH slH; rcases j with _ | _ | j <;> rfl
    ·cases hb
   have look7 : ∀ g b,Sy.look (lqHY cs so) g = some b → Sy.look (inH 2 j 2 cs [] so) g = some b:=fun g b hb => by
    unfold lqHY at hb
    rw [look_cons] at hb
    split at hb
    ·rename_i hg; subst hg; rw [← hb]; unfold inH slH; rcases j with _ | _ | j <;> rfl
    ·exact look6 g b hb
   have hlay:=(lay_conY a2 c2 em p s t cs.length d so hi).drop
   by_cases he : errOf p s t cs.length d [] so = 0
   ·obtain ⟨P,S,T,rfl,rfl,rfl,g1,g2,_,_,g5,g6⟩:=img_good he hs4.1 hs4.2.1 hs4.2.2.2 n1 n2
    obtain ⟨w1,w2,w3⟩:=img_more he hs4.1 hs4.2.1 hs4.2.2.2 n2 g2
    have hL : ConOk Try.prog 16 3 (layG (genJ P S T d a2 cs.length 0 so.length c2) (btHY so) (r256 (4 * cs.length)) (r256 (4 * cs.length)) (r256 d.length) (r256 (4 * cs.length) + r256 d.length) (S * so.length) (layFrom S cs.length so.length d.length) (P * 256 - layFrom S cs.length so.length d.length)):=by
     have:=hlay
     unfold layRes layV at this
     rw [he] at this
     exact this
    obtain ⟨call,T',q,hc,hr,hq⟩:=withinY P S T cs d a2 c2 em so _ _ _ _ _ _ _ g1 w1 (by have:=g1.p2; omega) w3 g5 hL
    exact ⟨call,lqHY cs so,hc,look7,rfl,T',q,hr,hq⟩
   ·obtain ⟨e,hE⟩ : ∃ e : Nat,errOf p s t cs.length d [] so = e:=⟨_,rfl⟩
    rw [hE] at he
    have hb0 : Nat.beq e 0 = false:=by
     cases hb : Nat.beq e 0
     ·rfl
     ·exact absurd (eB hb) he
    have h0' : ((e : Int) != 0) = true:=by simp; omega
    have hL : ConOk Try.prog 16 3 (layEH (genI p s t d (some ⟨64,0,none⟩) a2 (some ⟨66,0,none⟩) cs.length 0 so.length (big + 64) c2 (big + 66)) (btHY so) (e : Nat)):=by
     have:=hlay
     unfold layRes layV at this
     rw [hE] at this
     simp only [rr, tt, pe,hb0,cond_false] at this
     exact this
    have hbt:=bootEY_con p s t (e : Nat) d a2 c2 em cs.length so h0' hL
    have hr:=wne_y p s t (e : Nat) d a2 c2 cs.length so
    refine ⟨_,btHY so,run_ok (L:=100) ar_names (baseF_ok (selSteps_ok fun x hx => ?_) (noBase_ok _)) (noLoop_ok _) 20,look6,rfl,_,_,hr,?_⟩
    ·simp only [rr, tt, wnES,List.mem_cons,List.not_mem_nil,or_false] at hx
     rcases hx with rfl | rfl | rfl | rfl | rfl
     ·exact lw_con
     ·exact ⟨hL,⟨fun x hx => (by cases hx)⟩⟩
     ·exact ⟨hbt,⟨fun x hx => (by cases hx)⟩⟩
     ·exact ⟨hbt,⟨fun x hx => (by cases hx)⟩⟩
     ·exact ⟨hbt,⟨fun x hx => (by cases hx)⟩⟩
    ·simp only [rr, tt, h0',hse,em_rn em,f3,f4,and_true,true_and,and_self]
  ·have hj : j = 2:=by
    have hne0 : rs.length ≠ 0:=fun h => hrs (List.length_eq_zero_iff.1 h)
    have:=h2.1; have:=h2.2; omega
   subst hj
   have look6 : ∀ g b,Sy.look (btH rs so) g = some b → Sy.look (inH 2 2 2 cs rs so) g = some b:=fun g b hb => by
    unfold btH at hb
    rw [look_cons] at hb
    split at hb
    ·rename_i hg; subst hg; rw [← hb]; rfl
    ·rw [look_cons] at hb
     split at hb
     ·rename_i hg; subst hg; rw [← hb]; rfl
     ·cases hb
   have look7 : ∀ g b,Sy.look (lqH cs rs so) g = some b → Sy.look (inH 2 2 2 cs rs so) g = some b:=fun g b hb => by
    unfold lqH at hb
    rw [look_cons] at hb
    split at hb
    ·rename_i hg; subst hg; rw [← hb]; rfl
    ·exact look6 g b hb
   have hlay:=(lay_con p s t cs.length d rs so hi).drop
   by_cases he : errOf p s t cs.length d rs so = 0
   ·obtain ⟨P,S,T,rfl,rfl,rfl,g1,g2,g3,g4,g5,g6⟩:=img_good he hs4.1 hs4.2.1 hs4.2.2.2 n1 n2
    obtain ⟨w1,w2,w3⟩:=img_more he hs4.1 hs4.2.1 hs4.2.2.2 n2 g2
    have hL : ConOk Try.prog 16 3 (layG (genJ P S T d (some ⟨65,0,none⟩) cs.length rs.length so.length (big + 65)) (btH rs so) (r256 (4 * cs.length)) (r256 (4 * cs.length)) (r256 d.length) (r256 (4 * cs.length) + r256 d.length) (S * so.length) (layFrom S cs.length so.length d.length) (P * 256 - layFrom S cs.length so.length d.length)):=by
     have:=hlay
     unfold layRes layV at this
     rw [he] at this
     exact this
    obtain ⟨call,T',q,hc,hr,hq⟩:=withinF P S T cs d rs so _ _ _ _ _ _ _ g1 w1 (by have:=g1.p2; omega) g3 w2 hs4.2.2.1 w3 g5 hL
    exact ⟨call,lqH cs rs so,hc,look7,rfl,T',q,hr,hq⟩
   ·obtain ⟨e,hE⟩ : ∃ e : Nat,errOf p s t cs.length d rs so = e:=⟨_,rfl⟩
    rw [hE] at he
    have hb0 : Nat.beq e 0 = false:=by
     cases hb : Nat.beq e 0
     ·rfl
     ·exact absurd (eB hb) he
    have h0' : ((e : Int) != 0) = true:=by simp; omega
    have hL : ConOk Try.prog 16 3 (layEH (genI p s t d (some ⟨64,0,none⟩) (some ⟨65,0,none⟩) (some ⟨66,0,none⟩) cs.length rs.length so.length (big + 64) (big + 65) (big + 66)) (btH rs so) (e : Nat)):=by
     have:=hlay
     unfold layRes layV at this
     rw [hE] at this
     simp only [rr, tt, pe,hb0,cond_false] at this
     exact this
    have hbt:=bootEF_con p s t (e : Nat) d cs.length rs so h0' hL
    have hr:=wne_f p s t (e : Nat) d cs.length rs so
    refine ⟨_,btH rs so,run_ok (L:=100) ar_names (baseF_ok (selSteps_ok fun x hx => ?_) (noBase_ok _)) (noLoop_ok _) 20,look6,rfl,_,_,hr,?_⟩
    ·simp only [rr, tt, wnES,List.mem_cons,List.not_mem_nil,or_false] at hx
     rcases hx with rfl | rfl | rfl | rfl | rfl
     ·exact lw_con
     ·exact ⟨hL,⟨fun x hx => (by cases hx)⟩⟩
     ·exact ⟨hbt,⟨fun x hx => (by cases hx)⟩⟩
     ·exact ⟨hbt,⟨fun x hx => (by cases hx)⟩⟩
     ·exact ⟨hbt,⟨fun x hx => (by cases hx)⟩⟩
    ·simp only [rr, tt, h0',hse,f1,f2,f3,f4,and_true,true_and,and_self]
theorem loaderWithin_law : LawWalk 6 Try.f6:=by
 intro H enc W base args ds p hval hA
 rw [Try.params6] at hA hval
 obtain ⟨v0,vs0,d0,ds0,p0,q0,hargs,rfl,rfl,h0,r0⟩:=trodAll_cons hA
 obtain ⟨rfl,rfl,rfl⟩:=trodAll_nil r0
 obtain rfl : args = #[v0]:=by cases args; simp_all
 obtain ⟨pages,stack,types,data,cs,rs,starts,v1,v2,v3,i,j,k,B1,O1,C1,B2,O2,C2,B3,O3,C3,S1,S2,S3,rfl,s1,s2,s3,n1,n2,n3⟩:=open_img (hval 0 _ v0 rfl rfl) h0
 obtain ⟨call,hs,hc,hsub,hro,hr⟩:=within_run i j k pages stack types data cs rs starts s1.ok s2.ok s3.ok n1 n2 n3
 exact img_walkS hc s1 s2 s3 hsub hro hr
set_option maxRecDepth 100000 in
theorem loaderWithin_proved : Rows.LoaderWithinSaid :=
 OpenClaim.holds_of_wide 6 Try.f6 rfl rfl rfl rfl rfl rfl rfl ⟨rfl,rfl,rfl,rfl,rfl⟩ rfl rfl rfl rfl rfl (by kernel_rfl) Try.func6 (by kernel_rfl)
  (of_decide_eq_true (by kernel_rfl)) (by unfold Func.isWrapper; first | (rw [if_pos (by decide +kernel)]; kernel_rfl) | (rw [if_neg (by decide +kernel)]; exact ⟨rfl,rfl⟩))
  (fun os started H enc _ => law_lifted 6 Try.f6 Rows.loaderWithinSpec Rows.loaderWithinRow.domain Try.func6 (by kernel_rfl) rfl rfl
   (fun H ds hd => by match ds,hd with | [d0],_ => exact ⟨rfl,rfl,rfl⟩) (by decide +kernel) loaderWithin_law os started H enc
   (ChangeSpec.witness6 (enc:=enc) (C:=Try.checked) false ⟨#[],#[.agg #[.int .i64 0,.int .i64 0,.int .i64 0,.slice none 0 0,.string ByteArray.empty,.slice none 0 0,.slice none 0 0]],[]⟩ 8 (by kernel_rfl) (by kernel_rfl) (by kernel_rfl) (by kernel_rfl)))
end Go.Proofs.Ytliidiceljdgmaa
#print axioms Go.Proofs.Ytliidiceljdgmaa.loaderWithin_proved
