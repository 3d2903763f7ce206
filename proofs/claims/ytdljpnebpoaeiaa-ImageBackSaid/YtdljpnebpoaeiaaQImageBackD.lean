/-
  ImageBack: part 4 of the proof.
-/
import Derived.ChangeSlices
import Derived.OpenShut
import Derived.Test.YtdljpnebpoaeiaaQImageBackC
set_option linter.unusedSimpArgs false
set_option linter.unusedVariables false
set_option linter.unusedSectionVars false
namespace Go.Proofs.Ytdljpnebpoaeiaa
open Go.ChangeShapes Go.WideShapes Go.Deep Go.RowKit
open Sy
structure SlIs (W : World) (v : Value) (k : Nat) (cells : List Value) (n B O C : Nat) (S : Option Nat) : Prop where
 is : v = (match k with | 0 => .slice none 0 0 | 1 => .slice (some ⟨B,O,S⟩) 0 C | _ => .slice (some ⟨B,O,none⟩) n C)
 ok : slOk k n
 le : n ≤ C
 at_ : 2 ≤ k → ∃ arr ty fr,W.heap[B]? = some (.cells arr ty fr) ∧ O + cells.length ≤ arr.size ∧ ∀ j v,cells[j]? = some v → arr[O + j]? = some v
section
variable {H : Type} {enc : TypeId × Value → H} {P : Program} {W : World} {base : Nat} {spare : Nat → Bool} {held : Bool}
theorem cell_is {a : Addr} {v : Value} (h : W.cell? a = some v) : ∃ arr ty fr,W.heap[a.block]? = some (.cells arr ty fr) ∧ arr[a.off]? = some v ∧ a.spot = none:=by
 have hs:=World.cell?_spot h
 unfold World.cell? at h
 split at h
 ·rename_i c t f hb
  rw [hs] at h
  exact ⟨c,t,f,hb,by simpa using h,hs⟩
 ·cases h
theorem add_off {a : Addr} (h : a.spot = none) (i : Nat) : (a.add i).block = a.block ∧ (a.add i).off = a.off + i:=by
 obtain ⟨b,o,s⟩:=a
 subst h
 unfold Addr.add
 split <;> simp_all
theorem row_is {a : Addr} {cells : List Value} (h0 : 0 < cells.length) (h : ∀ i v,cells[i]? = some v → W.cell? (a.add i) = some v) : a.spot = none ∧ ∃ arr ty fr,W.heap[a.block]? = some (.cells arr ty fr) ∧ a.off + cells.length ≤ arr.size ∧ ∀ j v,cells[j]? = some v → arr[a.off + j]? = some v:=by
 have h1:=h 0 _ (List.getElem?_eq_getElem h0)
 rw [show a.add 0 = a by unfold Addr.add; simp] at h1
 obtain ⟨arr,ty,fr,q1,q2,q3⟩:=cell_is h1
 have hat : ∀ j v,cells[j]? = some v → arr[a.off + j]? = some v:=fun j v hj => by
  obtain ⟨arr',ty',fr',p1,p2,_⟩:=cell_is (h j v hj)
  obtain ⟨e1,e2⟩:=add_off q3 j
  rw [e1,q1] at p1
  cases p1
  rw [e2] at p2
  exact p2
 refine ⟨q3,arr,ty,fr,q1,?_,hat⟩
 have:=hat (cells.length - 1) _ (List.getElem?_eq_getElem (by omega))
 have:=(Array.getElem?_eq_some_iff.1 this).1
 omega
theorem u32_slice {t e : TypeId} {fuel : Nat} {u : Value} {x : DataW H × List MemPlace} (ht : P.underlying t = some (.slice e)) (he : P.underlying e = some (.int .u32)) (hc : P.cellsOf e = 1)
  (h : DataW.trod enc P W base spare held fuel t [u] = some x) : ∃ (k : Nat) (xs : List Nat) (B O C : Nat) (S : Option Nat),SlIs W u k (u32s xs) xs.length B O C S ∧ ∀ y ∈ xs,y < 4294967296:=by
 rcases open_ints ht he hc h with ⟨h1,_⟩ | ⟨a,len,cap,zs,h1,_,hl,_,hz,_,hcell,hw⟩
 ·simp only [rr, tt, List.cons.injEq,and_true] at h1
  exact ⟨0,[],0,0,0,none,⟨h1,⟨by omega,fun _ => rfl⟩,Nat.le_refl _,fun h => by omega⟩,fun y hy => by cases hy⟩
 ·simp only [rr, tt, List.cons.injEq,and_true] at h1
  subst h1
  have hlz : len ≤ zs.length:=by rw [hz]; split <;> omega
  by_cases h0 : len = 0
  ·subst h0
   obtain ⟨b,o,s⟩:=a
   exact ⟨1,[],b,o,cap,s,⟨rfl,⟨by omega,fun _ => rfl⟩,Nat.zero_le _,fun h => by omega⟩,fun y hy => by cases hy⟩
  ·have hlen : ((zs.take len).map Int.toNat).length = len:=by simp; omega
   have hget : ∀ i v,(u32s ((zs.take len).map Int.toNat))[i]? = some v → W.cell? (a.add i) = some v:=by
    intro i v hv
    unfold u32s at hv
    rw [List.getElem?_map,List.getElem?_map,List.getElem?_take] at hv
    split at hv
    ·rename_i hi
     rw [List.getElem?_eq_getElem (by omega)] at hv
     simp only [rr, tt, Option.map_some,Option.some.injEq] at hv
     have h2:=hcell i (by omega)
     have h3 : zs.getD i 0 = zs[i]'(by omega):=by rw [List.getD_eq_getElem?_getD,List.getElem?_eq_getElem (by omega)]; rfl
     rw [h3] at h2
     have h4:=wf_u32 (hw _ (List.getElem_mem (by omega : i < zs.length)))
     rw [h2,← hv]
     congr 2
     exact (Int.toNat_of_nonneg h4.1).symm
    ·cases hv
   have hul : (u32s ((zs.take len).map Int.toNat)).length = len:=by unfold u32s; rw [List.length_map]; exact hlen
   obtain ⟨hs,hrow⟩:=row_is (a:=a) (cells:=u32s ((zs.take len).map Int.toNat)) (by omega) hget
   obtain ⟨b,o,s⟩:=a
   simp only at hs
   subst hs
   refine ⟨2,(zs.take len).map Int.toNat,b,o,cap,none,⟨by rw [hlen]; rfl,⟨by omega,fun h => by omega⟩,by rw [hlen]; exact hl,fun _ => hrow⟩,fun y hy => ?_⟩
   obtain ⟨z,hz',rfl⟩:=List.mem_map.1 hy
   have h4:=wf_u32 (hw z (List.mem_of_mem_take hz'))
   omega
end
instance : Inhabited Rl:=⟨⟨0,false,0,0,0,0⟩⟩
theorem rels_at : ∀ (rs : List Rl) (i j : Nat),i < rs.length → j < 6 → (rels rs)[i * 6 + j]? = (relC (rl0 rs i))[j]?
 | [],i,j,h,_ => by simp at h
 | x :: rs,0,j,_,hj => by
  rw [rels_cons,List.getElem?_append_left (by simp only [rr, tt, relC,List.length_cons,List.length_nil]; omega)]
  simp [rl0]
 | x :: rs,i + 1,j,h,hj => by
  have hl : (relC x).length = 6:=rfl
  rw [rels_cons,List.getElem?_append_right (by rw [hl]; omega),hl,show (i + 1) * 6 + j - 6 = i * 6 + j by omega,rels_at rs i j (by simpa using h) hj]
  rfl
section
variable {H : Type} {enc : TypeId × Value → H} {W : World} {base : Nat} {spare : Nat → Bool} {held : Bool}
theorem rel_slice {fuel : Nat} {u : Value} {x : DataW H × List MemPlace} (h : DataW.trod enc Try.prog W base spare held fuel 23 [u] = some x) :
  ∃ (k : Nat) (rs : List Rl) (B O C : Nat) (S : Option Nat),SlIs W u k (rels rs) rs.length B O C S ∧ ∀ y ∈ rs,RlOk y:=by
 rcases open_slice_fields Try.underlying23 Try.underlying50 (by kernel_rfl) (by kernel_rfl) h with ⟨h1,_⟩ | ⟨a,len,cap,m,D,Pl,h1,_,hl,_,hm,_,hi⟩
 ·simp only [rr, tt, List.cons.injEq,and_true] at h1
  exact ⟨0,[],0,0,0,none,⟨h1,⟨by omega,fun _ => rfl⟩,Nat.le_refl _,fun h => by omega⟩,fun y hy => by cases hy⟩
 ·simp only [rr, tt, List.cons.injEq,and_true] at h1
  subst h1
  have hlm : len ≤ m:=by rw [hm]; split <;> omega
  by_cases h0 : len = 0
  ·subst h0
   obtain ⟨b,o,s⟩:=a
   exact ⟨1,[],b,o,cap,s,⟨rfl,⟨by omega,fun _ => rfl⟩,Nat.zero_le _,fun h => by omega⟩,fun y hy => by cases hy⟩
  ·obtain ⟨R,hR⟩:=choose_lt (n:=len) (α:=Rl) (p:=fun i r => RlOk r ∧ ∀ j v,(relC r)[j]? = some v → W.cell? (a.add (i * 6 + j)) = some v) (fun i hil => by
    obtain ⟨ys,n,_,_,_,hf⟩:=hi i (by omega)
    obtain ⟨v0,y0,c0,_,t0⟩:=hf 0 _ rfl
    obtain ⟨v1,y1,c1,_,t1⟩:=hf 1 _ rfl
    obtain ⟨v2,y2,c2,_,t2⟩:=hf 2 _ rfl
    obtain ⟨v3,y3,c3,_,t3⟩:=hf 3 _ rfl
    obtain ⟨v4,y4,c4,_,t4⟩:=hf 4 _ rfl
    obtain ⟨v5,y5,c5,_,t5⟩:=hf 5 _ rfl
    obtain ⟨n0,e0,_,w0⟩:=DataW.trod_int Try.underlying27 t0
    obtain ⟨n1,e1,_⟩:=DataW.trod_bool Try.underlying4 t1
    obtain ⟨n2,e2,_,w2⟩:=DataW.trod_int Try.underlying27 t2
    obtain ⟨n3,e3,_,w3⟩:=DataW.trod_int Try.underlying27 t3
    obtain ⟨n4,e4,_,w4⟩:=DataW.trod_int Try.underlying48 t4
    obtain ⟨n5,e5,_,w5⟩:=DataW.trod_int Try.underlying48 t5
    simp only [rr, tt, List.cons.injEq,and_true] at e0 e1 e2 e3 e4 e5
    subst e0 e1 e2 e3 e4 e5
    have b0:=wf_u32 w0
    have b2:=wf_u32 w2
    have b3:=wf_u32 w3
    have b4:=wf_u16 w4
    have b5:=wf_u16 w5
    refine ⟨⟨n0.toNat,n1,n2.toNat,n3.toNat,n4.toNat,n5.toNat⟩,⟨by show n0.toNat < _; omega,by show n2.toNat < _; omega,by show n3.toNat < _; omega,by show n4.toNat < _; omega,by show n5.toNat < _; omega⟩,fun j v hj => ?_⟩
    have hj6 : j < 6:=(List.getElem?_eq_some_iff.1 hj).1
    have cc : ∀ z : Int,0 ≤ z → ((z.toNat : Nat) : Int) = z:=fun z hz => Int.toNat_of_nonneg hz
    unfold relC at hj
    simp only [rr, tt, cc n0 b0.1,cc n2 b2.1,cc n3 b3.1,cc n4 b4.1,cc n5 b5.1] at hj
    obtain rfl | rfl | rfl | rfl | rfl | rfl : j = 0 ∨ j = 1 ∨ j = 2 ∨ j = 3 ∨ j = 4 ∨ j = 5:=by omega
    all_goals
     simp at hj
     subst hj
     assumption)
   have hlen : ((List.range len).map R).length = len:=by simp
   have h0r : ∀ i,i < len → rl0 ((List.range len).map R) i = R i:=fun i hil => by
    unfold rl0; rw [List.getD_eq_getElem?_getD,List.getElem?_map,List.getElem?_range hil]; rfl
   have hget : ∀ q v,(rels ((List.range len).map R))[q]? = some v → W.cell? (a.add q) = some v:=by
    intro q v hv
    have hq : q < len * 6:=by
     have:=(List.getElem?_eq_some_iff.1 hv).1
     rw [rels_len,hlen] at this; exact this
    have e : q = q / 6 * 6 + q % 6:=by omega
    rw [e,rels_at _ _ _ (by rw [hlen]; omega) (Nat.mod_lt _ (by omega)),h0r _ (by omega)] at hv
    rw [e]
    exact (hR (q / 6) (by omega)).2 _ _ hv
   obtain ⟨hs,hrow⟩:=row_is (a:=a) (cells:=rels ((List.range len).map R)) (by rw [rels_len,hlen]; omega) hget
   obtain ⟨b,o,s⟩:=a
   simp only at hs
   subst hs
   refine ⟨2,(List.range len).map R,b,o,cap,none,⟨by rw [hlen]; rfl,⟨by omega,fun h => by omega⟩,by rw [hlen]; exact hl,fun _ => hrow⟩,fun y hy => ?_⟩
   obtain ⟨i,hi',rfl⟩:=List.mem_map.1 hy
   exact (hR i (by simpa using hi')).1
end
def ren3 (B1 O1 C1 : Nat) (S1 : Option Nat) (B2 O2 C2 : Nat) (S2 : Option Nat) (B3 O3 C3 : Nat) (S3 : Option Nat) : Ren :=
 ⟨fun l => if l < NG then l else if l = 64 then B1 else if l = 65 then B2 else B3,fun l => if l < NG then 0 else if l = 64 then O1 else if l = 65 then O2 else O3,
  fun l => if l = 64 then (O1,S1) else if l = 65 then (O2,S2) else (O3,S3),fun l => if l = 64 then C1 else if l = 65 then C2 else C3,fun l => Nat.blt l 67,
  fun _ h => if_pos h,fun _ h => if_pos h,fun l h => blt_yes (Nat.lt_trans h (by decide))⟩
theorem cap_big (r : Ren) (g : Nat) : r.cap (big + g) = r.c g:=cap_letter r g
section
variable {r : Ren} {W : World} {v : Value} {k n B O C g : Nat} {S : Option Nat} {cells : List Value}
theorem sl_val (h : SlIs W v k cells n B O C S) (hb : r.b g = B) (hw : r.w g = O) (ho : r.o g = (O,S)) (hc : r.c g = C) : v = r.val (sl k g n):=by
 rw [h.is]
 rcases k with _ | _ | k
 ·show Value.slice none 0 0 = r.val (.slice none 0 0)
  rw [val_slice]; simp only [rr, tt, Option.map_none,Ren.cap]; rfl
 ·show Value.slice (some ⟨B,O,S⟩) 0 C = r.val (.slice (some ⟨g,0,some g⟩) 0 (big + g))
  rw [val_slice,cap_big,hc]; simp [Ren.addr,hb,ho]
 ·show Value.slice (some ⟨B,O,none⟩) n C = r.val (.slice (some ⟨g,0,none⟩) n (big + g))
  rw [val_slice,cap_big,hc]; simp [Ren.addr,hb,hw]
theorem sl_bnd {d : Nat → Bool} (hd : d g = true) : bnd d (sl k g n) = true:=by
 unfold sl
 split
 ·exact bnd_flat0 _ rfl
 ·rw [bnd_slice]; simp [bndA,hd]
 ·rw [bnd_slice]; simp [bndA,hd]
theorem sl_block (h : SlIs W v k cells n B O C S) (hb : r.b g = B) (hw : r.w g = O) (hf : ∀ u ∈ cells,flat0 u = true) : ∀ x ∈ slH k g cells,x.1 = g ∧ x.2.rw = false ∧ x.2.op = some (0,0) ∧ x.2.cells = cells ∧ Sy.Is r x.2 x.1 W:=by
 intro x hx
 unfold slH at hx
 split at hx
 ·cases hx
 ·cases hx
 ·rename_i k0 k1
  obtain rfl:=List.mem_singleton.1 hx
  refine ⟨rfl,rfl,rfl,rfl,.inl ⟨rfl,?_⟩⟩
  have hk2 : 2 ≤ k:=by
   rcases Nat.lt_or_ge k 2 with h | h
   ·have : k = 0 ∨ k = 1:=by omega
    rcases this with h | h
    ·exact absurd h k0
    ·exact absurd h k1
   ·exact h
  obtain ⟨arr,ty,fr,p1,p2,p3⟩:=h.at_ hk2
  refine ⟨arr,ty,fr,by rw [hb]; exact p1,⟨.inl rfl,by rw [hw]; exact p2⟩,fun j u hj => ?_,fun h => by cases h⟩
  rw [hw,val_flat0 r (hf u (List.mem_of_getElem? hj))]
  exact p3 j u hj
end
theorem in_good {W : World} {v1 v2 v3 : Value} {i j k : Nat} {cs : List Nat} {rs : List Rl} {starts : List Nat} {B1 O1 C1 B2 O2 C2 B3 O3 C3 : Nat} {S1 S2 S3 : Option Nat}
  (h1 : SlIs W v1 i (u32s cs) cs.length B1 O1 C1 S1) (h2 : SlIs W v2 j (rels rs) rs.length B2 O2 C2 S2) (h3 : SlIs W v3 k (u32s starts) starts.length B3 O3 C3 S3) (T : List (Nat × Bool)) :
  Sy.Good (ren3 B1 O1 C1 S1 B2 O2 C2 S2 B3 O3 C3 S3) ⟨67,inH i j k cs rs starts,inLo cs rs starts,0,T,0,True⟩ W:=by
 have key : ∀ x ∈ inH i j k cs rs starts,(x.1 = 64 ∨ x.1 = 65 ∨ x.1 = 66) ∧ x.2.rw = false ∧ x.2.op = some (0,0) ∧ (∀ u ∈ x.2.cells,flat0 u = true) ∧ Sy.Is (ren3 B1 O1 C1 S1 B2 O2 C2 S2 B3 O3 C3 S3) x.2 x.1 W:=by
  intro x hx
  unfold inH at hx
  rw [List.mem_append,List.mem_append] at hx
  rcases hx with (hx | hx) | hx
  ·obtain ⟨e1,e2,e3,e4,e5⟩:=sl_block (r:=ren3 B1 O1 C1 S1 B2 O2 C2 S2 B3 O3 C3 S3) (g:=64) h1 rfl rfl (u32s_flat cs) x hx
   exact ⟨.inl e1,e2,e3,by rw [e4]; exact u32s_flat cs,e5⟩
  ·obtain ⟨e1,e2,e3,e4,e5⟩:=sl_block (r:=ren3 B1 O1 C1 S1 B2 O2 C2 S2 B3 O3 C3 S3) (g:=65) h2 rfl rfl (rels_flat rs) x hx
   exact ⟨.inr (.inl e1),e2,e3,by rw [e4]; exact rels_flat rs,e5⟩
  ·obtain ⟨e1,e2,e3,e4,e5⟩:=sl_block (r:=ren3 B1 O1 C1 S1 B2 O2 C2 S2 B3 O3 C3 S3) (g:=66) h3 rfl rfl (u32s_flat starts) x hx
   exact ⟨.inr (.inr e1),e2,e3,by rw [e4]; exact u32s_flat starts,e5⟩
 refine ⟨fun g k hk => (key _ (look_mem hk)).2.2.2.2,fun g g' k k' e1 e2 hrw _ => ?_,fun g k hk => ?_,fun x hx => ?_⟩
 ·have:=(key _ (look_mem e1)).2.1
  simp only [] at this
  rw [this] at hrw; cases hrw
 ·obtain ⟨q1,_,q3,q4,_⟩:=key _ (look_mem hk)
  refine ⟨blt_yes (by simp only [] at q1; omega),fun p hp => ?_,fun u hu => ⟨bnd_flat0 _ (q4 u hu),flat0_oneCell (q4 u hu)⟩⟩
  simp only [] at q3
  rw [q3] at hp
  cases hp
  rfl
 ·simp only [rr, tt, inLo,List.mem_cons,List.not_mem_nil,or_false] at hx
  rcases hx with rfl | rfl | rfl
  ·exact ⟨h1.le,rfl⟩
  ·exact ⟨h2.le,rfl⟩
  ·exact ⟨h3.le,rfl⟩
theorem eq7 {l : List Value} {a b c d e f g : Value} (hl : l.length = 7) (h0 : l[0]? = some a) (h1 : l[1]? = some b) (h2 : l[2]? = some c) (h3 : l[3]? = some d) (h4 : l[4]? = some e) (h5 : l[5]? = some f) (h6 : l[6]? = some g) : l = [a,b,c,d,e,f,g]:=by
 match l,hl with
 | [x0,x1,x2,x3,x4,x5,x6],_ =>
  simp only [rr, tt, List.getElem?_cons_zero,List.getElem?_cons_succ,Option.some.injEq] at h0 h1 h2 h3 h4 h5 h6
  subst h0 h1 h2 h3 h4 h5 h6
  rfl
theorem open_img {H : Type} {enc : TypeId × Value → H} {W : World} {base b0 : Nat} {rc : Reach} {sp : Nat → Bool} {hd : Bool} {v : Value} {d : DataW H} {p : List MemPlace}
  (hv : Value.okWide Try.prog W rc b0 25 v) (h : DataW.Trod enc Try.prog W base sp hd 25 v d p) :
  ∃ (pages stack types : Int) (data : List UInt8) (cs : List Nat) (rs : List Rl) (starts : List Nat) (v1 v2 v3 : Value) (i j k B1 O1 C1 B2 O2 C2 B3 O3 C3 : Nat) (S1 S2 S3 : Option Nat),
   v = .agg ⟨[.int .i64 pages,.int .i64 stack,.int .i64 types,v1,.string ⟨⟨data⟩⟩,v2,v3]⟩ ∧ SlIs W v1 i (u32s cs) cs.length B1 O1 C1 S1 ∧ SlIs W v2 j (rels rs) rs.length B2 O2 C2 S2 ∧ SlIs W v3 k (u32s starts) starts.length B3 O3 C3 S3 ∧
   (∀ x ∈ cs,x < 4294967296) ∧ (∀ x ∈ rs,RlOk x) ∧ (∀ x ∈ starts,x < 4294967296):=by
 obtain ⟨l,rfl,hl,hf⟩:=open_agg_all Try.underlying25 (by kernel_rfl) (by kernel_rfl) hv h
 obtain ⟨u0,y0,m0,g0,t0⟩:=hf 0 _ rfl
 obtain ⟨u1,y1,m1,g1,t1⟩:=hf 1 _ rfl
 obtain ⟨u2,y2,m2,g2,t2⟩:=hf 2 _ rfl
 obtain ⟨u3,y3,m3,g3,t3⟩:=hf 3 _ rfl
 obtain ⟨u4,y4,m4,g4,t4⟩:=hf 4 _ rfl
 obtain ⟨u5,y5,m5,g5,t5⟩:=hf 5 _ rfl
 obtain ⟨u6,y6,m6,g6,t6⟩:=hf 6 _ rfl
 obtain ⟨pages,e0,_⟩:=DataW.trod_int Try.underlying3 t0
 obtain ⟨stack,e1,_⟩:=DataW.trod_int Try.underlying3 t1
 obtain ⟨types,e2,_⟩:=DataW.trod_int Try.underlying3 t2
 obtain ⟨str,e4,_⟩:=DataW.trod_string Try.underlying9 t4
 obtain ⟨i,cs,B1,O1,C1,S1,s1,n1⟩:=u32_slice Try.underlying22 Try.underlying27 (by kernel_rfl) t3
 obtain ⟨j,rs,B2,O2,C2,S2,s2,n2⟩:=rel_slice t5
 obtain ⟨k,starts,B3,O3,C3,S3,s3,n3⟩:=u32_slice Try.underlying22 Try.underlying27 (by kernel_rfl) t6
 simp only [rr, tt, List.cons.injEq,and_true] at e0 e1 e2 e4
 subst e0 e1 e2 e4
 obtain rfl:=eq7 hl g0 g1 g2 g3 g4 g5 g6
 obtain ⟨⟨data⟩⟩:=str
 exact ⟨pages,stack,types,data,cs,rs,starts,u3,u5,u6,i,j,k,B1,O1,C1,B2,O2,C2,B3,O3,C3,S1,S2,S3,rfl,s1,s2,s3,n1,n2,n3⟩
theorem sl_form {k g n : Nat} (h : slOk k n) : ∃ (a : Option Addr) (c : Nat),sl k g n = .slice a n c:=by
 obtain ⟨_,h2⟩:=h
 rcases k with _ | _ | k
 ·obtain rfl:=h2 (by omega); exact ⟨none,0,rfl⟩
 ·obtain rfl:=h2 (by omega); exact ⟨some ⟨g,0,some g⟩,big + g,rfl⟩
 ·exact ⟨some ⟨g,0,none⟩,big + g,rfl⟩
theorem inH_mem {i j k : Nat} {cs : List Nat} {rs : List Rl} {starts : List Nat} : ∀ x ∈ inH i j k cs rs starts,(x.1 = 64 ∨ x.1 = 65 ∨ x.1 = 66) ∧ x.2.rw = false ∧ x.2.op = some (0,0) ∧ ∀ u ∈ x.2.cells,flat0 u = true:=by
 have one : ∀ (k g : Nat) (cells : List Value),(∀ u ∈ cells,flat0 u = true) → ∀ x ∈ slH k g cells,x.1 = g ∧ x.2.rw = false ∧ x.2.op = some (0,0) ∧ ∀ u ∈ x.2.cells,flat0 u = true:=by
  intro k g cells hf x hx
  unfold slH at hx
  split at hx
  ·cases hx
  ·cases hx
  ·obtain rfl:=List.mem_singleton.1 hx
   exact ⟨rfl,rfl,rfl,hf⟩
 intro x hx
 unfold inH at hx
 rw [List.mem_append,List.mem_append] at hx
 rcases hx with (hx | hx) | hx
 ·obtain ⟨e1,e⟩:=one _ _ _ (u32s_flat cs) x hx; exact ⟨.inl e1,e⟩
 ·obtain ⟨e1,e⟩:=one _ _ _ (rels_flat rs) x hx; exact ⟨.inr (.inl e1),e⟩
 ·obtain ⟨e1,e⟩:=one _ _ _ (u32s_flat starts) x hx; exact ⟨.inr (.inr e1),e⟩
theorem own_id (v : Value) (i j k : Nat) (pages stack types : Int) (data : List UInt8) (cs : List Nat) (rs : List Rl) (starts : List Nat) : InId 3 (ownC v (inH i j k cs rs starts) pages stack types data cs rs starts):=by
 refine ⟨fun x hx => ?_,fun x hx _ => ?_⟩
 ·obtain ⟨e1,e2,e3,e4⟩:=inH_mem x hx
  refine ⟨by show x.1 < 67; omega,fun q hq => ?_,e2,fun u hu => okV_flat0 (e4 u hu) 3⟩
  rw [e3] at hq; cases hq; show 0 < 67; omega
 ·simp only [rr, tt, ownC,ownH,List.mem_cons,List.not_mem_nil,or_false] at hx
  rcases hx with rfl | rfl | rfl
  ·exact u32s_flat _
  ·exact rels_flat _
  ·exact u32s_flat _
theorem img_walk {call : CallK} (hcall : SoundCall Try.prog call) {f : FuncId} {W : World} {v1 v2 v3 : Value} {i j k : Nat} {pages stack types : Int} {data : List UInt8} {cs : List Nat} {rs : List Rl} {starts : List Nat} {B1 O1 C1 B2 O2 C2 B3 O3 C3 : Nat} {S1 S2 S3 : Option Nat}
  (h1 : SlIs W v1 i (u32s cs) cs.length B1 O1 C1 S1) (h2 : SlIs W v2 j (rels rs) rs.length B2 O2 C2 S2) (h3 : SlIs W v3 k (u32s starts) starts.length B3 O3 C3 S3)
  (run : ∃ (T : List (Nat × Bool)) (q : Prop),obs (call f [inV i j k pages stack types data cs rs starts] ⟨67,inH i j k cs rs starts,inLo cs rs starts,0,T,0,True⟩) = some (.bool true,q) ∧ q) :
  Calls Try.prog f #[.agg ⟨[.int .i64 pages,.int .i64 stack,.int .i64 types,v1,.string ⟨⟨data⟩⟩,v2,v3]⟩] W fun e W' => e = .returned (.bool true) ∧ Below W.heap.size W W':=by
 obtain ⟨T,q,hr,hq⟩:=run
 have hb : ∀ u ∈ [inV i j k pages stack types data cs rs starts],bnd (ren3 B1 O1 C1 S1 B2 O2 C2 S2 B3 O3 C3 S3).d u = true:=fun u hu => by
  obtain rfl:=List.mem_singleton.1 hu
  unfold inV
  rw [bnd_agg]
  have e1 : bnd (ren3 B1 O1 C1 S1 B2 O2 C2 S2 B3 O3 C3 S3).d (sl i 64 cs.length) = true:=sl_bnd rfl
  have e2 : bnd (ren3 B1 O1 C1 S1 B2 O2 C2 S2 B3 O3 C3 S3).d (sl j 65 rs.length) = true:=sl_bnd rfl
  have e3 : bnd (ren3 B1 O1 C1 S1 B2 O2 C2 S2 B3 O3 C3 S3).d (sl k 66 starts.length) = true:=sl_bnd rfl
  rw [Array.all_eq_true_iff_forall_mem]
  intro u hu
  simp only [rr, tt, List.mem_toArray,List.mem_cons,List.not_mem_nil,or_false] at hu
  rcases hu with rfl | rfl | rfl | rfl | rfl | rfl | rfl
  ·exact bnd_flat0 _ rfl
  ·exact bnd_flat0 _ rfl
  ·exact bnd_flat0 _ rfl
  ·exact e1
  ·exact bnd_flat0 _ rfl
  ·exact e2
  ·exact e3
 have hw : WFn ⟨67,inH i j k cs rs starts,inLo cs rs starts,0,T,0,True⟩:=⟨fun g kb hk => by
  have:=(inH_mem _ (look_mem hk)).1
  show g < 67
  simp only [] at this
  omega,fun x hx => by
  simp only [rr, tt, inLo,List.mem_cons,List.not_mem_nil,or_false] at hx
  show x.1 < 67
  rcases hx with rfl | rfl | rfl <;> simp⟩
 have hro : (inH i j k cs rs starts).all (fun y => !y.2.rw) = true:=List.all_eq_true.2 fun x hx => by rw [(inH_mem x hx).2.1]; rfl
 have h:=yes_ok hcall hr hq hw hro (in_good h1 h2 h3 T) (fun l hl => blt_no hl) hb
 have hv : (Value.agg ⟨[.int .i64 pages,.int .i64 stack,.int .i64 types,v1,.string ⟨⟨data⟩⟩,v2,v3]⟩) = (ren3 B1 O1 C1 S1 B2 O2 C2 S2 B3 O3 C3 S3).val (inV i j k pages stack types data cs rs starts):=by
  have e1:=sl_val (r:=ren3 B1 O1 C1 S1 B2 O2 C2 S2 B3 O3 C3 S3) (g:=64) h1 rfl rfl rfl rfl
  have e2:=sl_val (r:=ren3 B1 O1 C1 S1 B2 O2 C2 S2 B3 O3 C3 S3) (g:=65) h2 rfl rfl rfl rfl
  have e3:=sl_val (r:=ren3 B1 O1 C1 S1 B2 O2 C2 S2 B3 O3 C3 S3) (g:=66) h3 rfl rfl rfl rfl
  unfold inV
  rw [val_agg]
  simp only [rr, tt, List.map_toArray,List.map_cons,List.map_nil,val_int,val_string,← e1,← e2,← e3]
 rw [hv]
 exact h
end Go.Proofs.Ytdljpnebpoaeiaa
namespace Go.Proofs.Ytdljpnebpoaeiaa
open Go.RowKit
open Sy
set_option maxRecDepth 100000
def selOne (f0 : FuncId) (c : Con) (ρ : List Nat) (m : Nat) : SelT:=fun f _ _ => bif Nat.beq f f0 then some (c,ρ,m,True) else none
theorem selOne_ok {P : Program} {d : Nat} {f0 : FuncId} {c : Con} {ρ : List Nat} {m : Nat} (h : ConOk P f0 d c) (hi : InId d c) : SelTOk P d (selOne f0 c ρ m):=by
 intro f args s c' ρ' m' q h1 _
 unfold selOne at h1
 obtain ⟨h2,h3⟩:=bif_some h1
 clear h1
 have h2:=Nat.eq_of_beq_eq_true h2
 subst h2
 cases h3
 exact ⟨h,hi⟩
def anV (pages stack types : Int) (data : List UInt8) (s1 s2 s3 : Value) : Value:=.agg ⟨[.int .i64 pages,.int .i64 stack,.int .i64 types,s1,.string ⟨⟨data⟩⟩,s2,s3]⟩
def ow2V (pages stack types : Int) (dd : List UInt8) (nc nr ns a b c : Nat) : Value :=
 .agg ⟨[.int .i64 pages,.int .i64 stack,.int .i64 types,.slice (some ⟨a,0,none⟩) nc (big + a),.string ⟨⟨dd⟩⟩,.slice (some ⟨b,0,none⟩) nr (big + b),.slice (some ⟨c,0,none⟩) ns (big + c)]⟩
def ow2H (co : List Nat) (ro : List Rl) (so : List Nat) (a b c : Nat) : Sy.Heap:=[(c,⟨true,some (c,1),u32s so,none⟩),(b,⟨true,some (b,6),rels ro,none⟩),(a,⟨true,some (a,1),u32s co,none⟩)]
def ow2C (v : Value) (h : Sy.Heap) (lo : List (Nat × Nat)) (pages stack types : Int) (dd : List UInt8) (co : List Nat) (ro : List Rl) (so : List Nat) : Con :=
 ⟨[v],67,h,lo,ow2V pages stack types dd co.length ro.length so.length 67 68 69,70,ow2H co ro so 67 68 69,[]⟩
def lo3 (a b c : Nat) : List (Nat × Nat):=[(64,a),(65,b),(66,c)]
def notF (l : List FuncId) (f : FuncId) : Bool:=l.all fun g => !Nat.beq g f
def selIf (p : FuncId → Bool) (s : SelC) : SelC:=fun f args st => bif p f then s f args st else none
theorem selIf_ok {P : Program} {d : Nat} {p : FuncId → Bool} {s : SelC} (h : SelOk P d s) : SelOk P d (selIf p s):=by
 intro f args st c ρ q h1 h2
 unfold selIf at h1
 obtain ⟨_,h3⟩:=bif_some h1
 exact h f args st c ρ q h3 h2
end Go.Proofs.Ytdljpnebpoaeiaa
namespace Go.Proofs.Ytdljpnebpoaeiaa
open Go.RowKit
open Sy
theorem put1 (s : List UInt8) (v : Int) : obs (evF Try.prog noBase noLoop 100 10 36 [Value.string ⟨⟨s⟩⟩,.int .i64 1,.int .u32 v] (stT [])) = some (Value.string ⟨⟨s++[UInt8.ofNat (IntKind.u8.wrap (v.fdiv (1:Int))).toNat]⟩⟩,bif (lenT s+1).blt 9223372036854775808 then True else False):=by kernel_rfl
theorem put2 (s : List UInt8) (v : Int) : obs (evF Try.prog noBase noLoop 100 10 36 [Value.string ⟨⟨s⟩⟩,.int .i64 2,.int .u32 v] (stT [])) = some (Value.string ⟨⟨s++[UInt8.ofNat (IntKind.u8.wrap (v.fdiv (1:Int))).toNat,UInt8.ofNat (IntKind.u8.wrap (v.fdiv (256:Int))).toNat]⟩⟩,bif (lenT s+2).blt 9223372036854775808 then True else False):=by kernel_rfl
theorem put4 (s : List UInt8) (v : Int) : obs (evF Try.prog noBase noLoop 100 10 36 [Value.string ⟨⟨s⟩⟩,.int .i64 4,.int .u32 v] (stT [])) = some (Value.string ⟨⟨s++[UInt8.ofNat (IntKind.u8.wrap (v.fdiv (1:Int))).toNat,UInt8.ofNat (IntKind.u8.wrap (v.fdiv (256:Int))).toNat,UInt8.ofNat (IntKind.u8.wrap (v.fdiv (65536:Int))).toNat,UInt8.ofNat (IntKind.u8.wrap (v.fdiv (16777216:Int))).toNat]⟩⟩,bif (lenT s+4).blt 9223372036854775808 then True else False):=by kernel_rfl
theorem rput1 (s : List UInt8) (v : Int) : obs (evF Try.prog noBase noLoop 100 10 38 [Value.string ⟨⟨s⟩⟩,.int .i64 1,.int .u32 v] (stT [])) = some (Value.string ⟨⟨s++[UInt8.ofNat (IntKind.u8.wrap (v.tmod (256:Int))).toNat]⟩⟩,bif (lenT s+1).blt 9223372036854775808 then True else False):=by kernel_rfl
theorem rput2 (s : List UInt8) (v : Int) : obs (evF Try.prog noBase noLoop 100 10 38 [Value.string ⟨⟨s⟩⟩,.int .i64 2,.int .u32 v] (stT [])) = some (Value.string ⟨⟨s++[UInt8.ofNat (IntKind.u8.wrap (v.tmod (256:Int))).toNat]++[UInt8.ofNat (IntKind.u8.wrap ((IntKind.u32.wrap (v.tdiv (256:Int))).tmod (256:Int))).toNat]⟩⟩,bif (lenT (s++[UInt8.ofNat (IntKind.u8.wrap (v.tmod (256:Int))).toNat])+1).blt 9223372036854775808 then bif (lenT s+1).blt 9223372036854775808 then True else False else False):=by kernel_rfl
theorem rput4 (s : List UInt8) (v : Int) : obs (evF Try.prog noBase noLoop 100 10 38 [Value.string ⟨⟨s⟩⟩,.int .i64 4,.int .u32 v] (stT [])) = some (Value.string ⟨⟨s++[UInt8.ofNat (IntKind.u8.wrap (v.tmod (256:Int))).toNat]++[UInt8.ofNat (IntKind.u8.wrap ((IntKind.u32.wrap (v.tdiv (256:Int))).tmod (256:Int))).toNat]++[UInt8.ofNat (IntKind.u8.wrap ((IntKind.u32.wrap ((IntKind.u32.wrap (v.tdiv (256:Int))).tdiv (256:Int))).tmod (256:Int))).toNat]++[UInt8.ofNat (IntKind.u8.wrap ((IntKind.u32.wrap ((IntKind.u32.wrap ((IntKind.u32.wrap (v.tdiv (256:Int))).tdiv (256:Int))).tdiv (256:Int))).tmod (256:Int))).toNat]⟩⟩,bif (lenT (s++[UInt8.ofNat (IntKind.u8.wrap (v.tmod (256:Int))).toNat]++[UInt8.ofNat (IntKind.u8.wrap ((IntKind.u32.wrap (v.tdiv (256:Int))).tmod (256:Int))).toNat]++[UInt8.ofNat (IntKind.u8.wrap ((IntKind.u32.wrap ((IntKind.u32.wrap (v.tdiv (256:Int))).tdiv (256:Int))).tmod (256:Int))).toNat])+1).blt 9223372036854775808 then bif (lenT (s++[UInt8.ofNat (IntKind.u8.wrap (v.tmod (256:Int))).toNat]++[UInt8.ofNat (IntKind.u8.wrap ((IntKind.u32.wrap (v.tdiv (256:Int))).tmod (256:Int))).toNat])+1).blt 9223372036854775808 then bif (lenT (s++[UInt8.ofNat (IntKind.u8.wrap (v.tmod (256:Int))).toNat])+1).blt 9223372036854775808 then bif (lenT s+1).blt 9223372036854775808 then True else False else False else False else False):=by kernel_rfl
def leB : Nat → Nat → List UInt8
 | 0,_ => []
 | w + 1,n => UInt8.ofNat (n % 256) :: leB w (n / 256)
theorem leB_len : ∀ (w n : Nat),(leB w n).length = w
 | 0,_ => rfl
 | w + 1,n => by simp [leB,leB_len w]
def putC (s : List UInt8) (w v : Int) : Con:=Con.pure [.string ⟨⟨s⟩⟩,.int .i64 w,.int .u32 v] (.string ⟨⟨s ++ leB w.toNat v.toNat⟩⟩)
def putOk (s : List UInt8) (w v : Int) : Prop:=s.length ≤ 1000000000 ∧ (w = 1 ∨ w = 2 ∨ w = 4) ∧ inU32 v
theorem fd (n k : Nat) : (n : Int).fdiv (k : Int) = ((n / k : Nat) : Int):=by
 rw [Int.fdiv_eq_ediv_of_nonneg _ (by omega)]; rfl
theorem td (n k : Nat) : (n : Int).tdiv (k : Int) = ((n / k : Nat) : Int):=(Int.ofNat_tdiv n k).symm
theorem tm (n k : Nat) : (n : Int).tmod (k : Int) = ((n % k : Nat) : Int):=(Int.ofNat_tmod n k).symm
theorem w8 (n : Nat) : (IntKind.u8.wrap (n : Int)).toNat = n % 256:=by rw [IntKind.wrap_u8]; omega
theorem w32 (n : Nat) (h : n < 4294967296) : IntKind.u32.wrap (n : Int) = (n : Int):=u32_nat n h
theorem fd0 (n : Nat) : (n : Int).fdiv (1 : Int) = ((n / 1 : Nat) : Int):=fd n 1
theorem fd1 (n : Nat) : (n : Int).fdiv (256 : Int) = ((n / 256 : Nat) : Int):=fd n 256
theorem fd2 (n : Nat) : (n : Int).fdiv (65536 : Int) = ((n / 65536 : Nat) : Int):=fd n 65536
theorem fd3 (n : Nat) : (n : Int).fdiv (16777216 : Int) = ((n / 16777216 : Nat) : Int):=fd n 16777216
theorem td1 (n : Nat) : (n : Int).tdiv (256 : Int) = ((n / 256 : Nat) : Int):=td n 256
theorem tm1 (n : Nat) : (n : Int).tmod (256 : Int) = ((n % 256 : Nat) : Int):=tm n 256
theorem dd2 (n : Nat) : n / 65536 = n / 256 / 256:=by omega
theorem dd3 (n : Nat) : n / 16777216 = n / 256 / 256 / 256:=by omega
theorem put_con (s : List UInt8) (w v : Int) (h : putOk s w v) : ConOk Try.prog 36 3 (putC s w v):=by
 obtain ⟨hs,hw,h1,h2⟩:=h
 obtain ⟨n,rfl⟩:=Int.eq_ofNat_of_zero_le h1
 have hn : n < 4294967296:=by omega
 have m1:=w32 (n / 256) (by omega)
 have m2:=w32 (n / 256 / 256) (by omega)
 have m3:=w32 (n / 256 / 256 / 256) (by omega)
 rcases hw with rfl | rfl | rfl
 ·have hr:=put1 s (n : Int)
  simp only [rr, tt, fd0,fd1,fd2,fd3,td1,tm1,m1,m2,m3,w8,dd2,dd3,Nat.div_one,Nat.mod_mod,List.append_assoc,List.cons_append,List.nil_append] at hr
  exact pure_run (run_ok i_names (noBase_ok _) (noLoop_ok _) 10) (v:=.string ⟨⟨s ++ leB 1 n⟩⟩) hr (by
   simp only [rr, tt, lenT_eq,List.length_append,List.length_cons,List.length_nil]
   repeat (first | exact trivial | refine bif_true (blt_true (by omega)) ?_)) rfl rfl
 ·have hr:=put2 s (n : Int)
  simp only [rr, tt, fd0,fd1,fd2,fd3,td1,tm1,m1,m2,m3,w8,dd2,dd3,Nat.div_one,Nat.mod_mod,List.append_assoc,List.cons_append,List.nil_append] at hr
  exact pure_run (run_ok i_names (noBase_ok _) (noLoop_ok _) 10) (v:=.string ⟨⟨s ++ leB 2 n⟩⟩) hr (by
   simp only [rr, tt, lenT_eq,List.length_append,List.length_cons,List.length_nil]
   repeat (first | exact trivial | refine bif_true (blt_true (by omega)) ?_)) rfl rfl
 ·have hr:=put4 s (n : Int)
  simp only [rr, tt, fd0,fd1,fd2,fd3,td1,tm1,m1,m2,m3,w8,dd2,dd3,Nat.div_one,Nat.mod_mod,List.append_assoc,List.cons_append,List.nil_append] at hr
  exact pure_run (run_ok i_names (noBase_ok _) (noLoop_ok _) 10) (v:=.string ⟨⟨s ++ leB 4 n⟩⟩) hr (by
   simp only [rr, tt, lenT_eq,List.length_append,List.length_cons,List.length_nil]
   repeat (first | exact trivial | refine bif_true (blt_true (by omega)) ?_)) rfl rfl
theorem rput_con (s : List UInt8) (w v : Int) (h : putOk s w v) : ConOk Try.prog 38 3 (putC s w v):=by
 obtain ⟨hs,hw,h1,h2⟩:=h
 obtain ⟨n,rfl⟩:=Int.eq_ofNat_of_zero_le h1
 have hn : n < 4294967296:=by omega
 have m1:=w32 (n / 256) (by omega)
 have m2:=w32 (n / 256 / 256) (by omega)
 have m3:=w32 (n / 256 / 256 / 256) (by omega)
 rcases hw with rfl | rfl | rfl
 ·have hr:=rput1 s (n : Int)
  simp only [rr, tt, fd0,fd1,fd2,fd3,td1,tm1,m1,m2,m3,w8,dd2,dd3,Nat.div_one,Nat.mod_mod,List.append_assoc,List.cons_append,List.nil_append] at hr
  exact pure_run (run_ok i_names (noBase_ok _) (noLoop_ok _) 10) (v:=.string ⟨⟨s ++ leB 1 n⟩⟩) hr (by
   simp only [rr, tt, lenT_eq,List.length_append,List.length_cons,List.length_nil]
   repeat (first | exact trivial | refine bif_true (blt_true (by omega)) ?_)) rfl rfl
 ·have hr:=rput2 s (n : Int)
  simp only [rr, tt, fd0,fd1,fd2,fd3,td1,tm1,m1,m2,m3,w8,dd2,dd3,Nat.div_one,Nat.mod_mod,List.append_assoc,List.cons_append,List.nil_append] at hr
  exact pure_run (run_ok i_names (noBase_ok _) (noLoop_ok _) 10) (v:=.string ⟨⟨s ++ leB 2 n⟩⟩) hr (by
   simp only [rr, tt, lenT_eq,List.length_append,List.length_cons,List.length_nil]
   repeat (first | exact trivial | refine bif_true (blt_true (by omega)) ?_)) rfl rfl
 ·have hr:=rput4 s (n : Int)
  simp only [rr, tt, fd0,fd1,fd2,fd3,td1,tm1,m1,m2,m3,w8,dd2,dd3,Nat.div_one,Nat.mod_mod,List.append_assoc,List.cons_append,List.nil_append] at hr
  exact pure_run (run_ok i_names (noBase_ok _) (noLoop_ok _) 10) (v:=.string ⟨⟨s ++ leB 4 n⟩⟩) hr (by
   simp only [rr, tt, lenT_eq,List.length_append,List.length_cons,List.length_nil]
   repeat (first | exact trivial | refine bif_true (blt_true (by omega)) ?_)) rfl rfl
def selPut : SelC:=fun f args _ =>
 match args with
 | [.string ⟨⟨s⟩⟩,.int .i64 w,.int .u32 v] => bif Nat.beq f 36 then some (putC s w v,[],putOk s w v) else bif Nat.beq f 38 then some (putC s w v,[],putOk s w v) else none
 | _ => none
theorem selPut_ok : SelOk Try.prog 3 selPut:=by
 intro f args s c ρ q h hq
 unfold selPut at h
 split at h
 ·cases h1 : Nat.beq f 36 <;> rw [h1] at h
  ·simp only [rr, tt, cond_false] at h
   obtain ⟨h2,h3⟩:=bif_some h
   clear h
   have h2:=Nat.eq_of_beq_eq_true h2
   subst h2
   cases h3
   exact rput_con _ _ _ hq
  ·have h1:=Nat.eq_of_beq_eq_true h1
   subst h1
   cases h
   exact put_con _ _ _ hq
 ·cases h
end Go.Proofs.Ytdljpnebpoaeiaa
namespace Go.Proofs.Ytdljpnebpoaeiaa
open Go.RowKit
open Sy
def puI (xs : List Nat) (acc : List UInt8) (k : Nat) : Sf :=
 ⟨67,[(0,.int .i64 4),(2,.pointer (some ⟨65,0,none⟩)),(7,.slice (some ⟨64,0,none⟩) xs.length (big + 64)),(8,.int .i64 (xs.length : Nat)),(9,.int .i64 (k : Nat))],
  [(64,⟨false,some (0,0),u32s xs,none⟩),(65,⟨true,none,[.slice (some ⟨66,0,none⟩) acc.length (big + 66)],none⟩),(66,⟨true,some (66,1),u8s acc,none⟩)],[(66,acc.length)]⟩
def puN (acc : List UInt8) : Sf:=⟨68,[],[(65,⟨true,none,[.slice (some ⟨67,0,none⟩) acc.length (big + 67)],none⟩),(67,⟨true,some (67,1),u8s acc,none⟩)],[(67,acc.length)]⟩
theorem pu_next (xs : List Nat) (acc : List UInt8) (k : Nat) : evC Try.prog (evF Try.prog (baseC 3 selPut) noLoop 100 3) (noLoop 35) 19 100 (loopOf Try.prog 35 0) (Sf.frT 19 (puI xs acc k) [(0,true)]) = some (Exit.normal,{ e:=[[Value.int .i64 4,unk,.pointer (some ⟨65,0,none⟩),unk,unk,unk,.int .u32 (intOf' (getD' undef (u32s xs) (0 + (↑k : Int).toNat * 1))),.slice (some ⟨64,0,none⟩) xs.length 9223372036854775872,.int .i64 (↑xs.length),.int .i64 (IntKind.i64.wrap ((↑k : Int) + (1 : Int))),.bool (decide ((↑k : Int) < (↑xs.length : Int))),.pointer (some { block:=64,off:=0 + (↑k : Int).toNat * 1 }),.int .u32 (intOf' (getD' undef (u32s xs) (0 + (↑k : Int).toNat * 1))),.slice (some ⟨66,0,none⟩) acc.length 9223372036854775874,.int .i64 4,.int .u32 (intOf' (getD' undef (u32s xs) (0 + (↑k : Int).toNat * 1)))],[Value.string ⟨⟨[] ++ leB 4 (intOf' (getD' undef (u32s xs) (0 + (↑k : Int).toNat * 1))).toNat⟩⟩,.slice (some ⟨67,0,none⟩) (acc.length + lenT ([] ++ leB 4 (intOf' (getD' undef (u32s xs) (0 + (↑k : Int).toNat * 1))).toNat)) 9223372036854775875,.int .i64 (IntKind.i64.wrap ((↑k : Int) + (1 : Int))),unk,unk,unk,unk,unk,unk,unk,unk,unk,unk,unk,unk,unk]],s:={ n:=68,h:=[(67,⟨true,some (67,1),u8s acc ++ List.map (fun c => Value.int .u8 (↑c.toNat)) (List.take (lenT ([] ++ leB 4 (intOf' (getD' undef (u32s xs) (0 + (↑k : Int).toNat * 1))).toNat)) ([] ++ leB 4 (intOf' (getD' undef (u32s xs) (0 + (↑k : Int).toNat * 1))).toNat)),none⟩),(64,⟨false,some (0,0),u32s xs,none⟩),(65,⟨true,none,[Value.slice (some ⟨67,0,none⟩) (acc.length + lenT ([] ++ leB 4 (intOf' (getD' undef (u32s xs) (0 + (↑k : Int).toNat * 1))).toNat)) 9223372036854775875],none⟩)],lo:=[(67,acc.length + lenT ([] ++ leB 4 (intOf' (getD' undef (u32s xs) (0 + (↑k : Int).toNat * 1))).toNat)),(66,acc.length)],esc:=0,T:=[],k:=1,O:=bif (lenT (u8s acc)).beq (acc.length * 1) then bif (lenT (List.map (fun c => Value.int .u8 (↑c.toNat)) (List.take (lenT ([] ++ leB 4 (intOf' (getD' undef (u32s xs) (0 + (↑k : Int).toNat * 1))).toNat)) ([] ++ leB 4 (intOf' (getD' undef (u32s xs) (0 + (↑k : Int).toNat * 1))).toNat)))).beq (lenT ([] ++ leB 4 (intOf' (getD' undef (u32s xs) (0 + (↑k : Int).toNat * 1))).toNat) * 1) && oneC (List.map (fun c => Value.int .u8 (↑c.toNat)) (List.take (lenT ([] ++ leB 4 (intOf' (getD' undef (u32s xs) (0 + (↑k : Int).toNat * 1))).toNat)) ([] ++ leB 4 (intOf' (getD' undef (u32s xs) (0 + (↑k : Int).toNat * 1))).toNat))) && ((acc.length + lenT ([] ++ leB 4 (intOf' (getD' undef (u32s xs) (0 + (↑k : Int).toNat * 1))).toNat)) * 1).ble 1099511627776 && (acc.length + lenT ([] ++ leB 4 (intOf' (getD' undef (u32s xs) (0 + (↑k : Int).toNat * 1))).toNat)).blt 4611686018427387904 then (bif hasN (0 + (↑k : Int).toNat * 1 + 1) (u32s xs) && isLikeL [Value.int .u32 0] (u32s xs) (0 + (↑k : Int).toNat * 1) then bif decide ((0 : Int) ≤ (↑k : Int)) && decide ((↑k : Int) < (↑xs.length : Int)) then True ∧ decide ((↑k : Int) < (↑xs.length : Int)) = true else False else False) ∧ (([] : List UInt8).length ≤ 1000000000 ∧ ((4 : Int) = (1 : Int) ∨ (4 : Int) = (2 : Int) ∨ (4 : Int) = (4 : Int)) ∧ (0 : Int) ≤ intOf' (getD' undef (u32s xs) (0 + (↑k : Int).toNat * 1)) ∧ intOf' (getD' undef (u32s xs) (0 + (↑k : Int).toNat * 1)) < (4294967296 : Int)) ∧ (Value.string { data:=#[] : ByteArray } = Value.string ⟨⟨[]⟩⟩ ∧ rr (Value.int .i64 4) ∧ rr (Value.int .u32 (intOf' (getD' undef (u32s xs) (0 + (↑k : Int).toNat * 1)))) ∧ True) ∧ True ∧ True else False else False : St } : Fr }):=by kernel_rfl
theorem pu_end (xs : List Nat) (acc : List UInt8) (k : Nat) : evC Try.prog (evF Try.prog (baseC 3 selPut) noLoop 100 3) (noLoop 35) 19 100 (loopOf Try.prog 35 0) (Sf.frT 19 (puI xs acc k) [(0,false)]) = some (Exit.exit 0,{ e:=[[Value.int .i64 4,unk,.pointer (some ⟨65,0,none⟩),unk,unk,unk,unk,.slice (some ⟨64,0,none⟩) xs.length 9223372036854775872,.int .i64 (↑xs.length),.int .i64 (↑k),.bool (decide ((↑k : Int) < (↑xs.length : Int))),unk,unk,unk,unk,unk],[unk,unk,unk,unk,unk,unk,unk,unk,unk,unk,unk,unk,unk,unk,unk,unk]],s:={ n:=67,h:=[(64,⟨false,some (0,0),u32s xs,none⟩),(65,⟨true,none,[Value.slice (some ⟨66,0,none⟩) acc.length 9223372036854775874],none⟩),(66,⟨true,some (66,1),u8s acc,none⟩)],lo:=[(66,acc.length)],esc:=0,T:=[],k:=1,O:=True ∧ decide ((↑k : Int) < (↑xs.length : Int)) = false : St } : Fr }):=by kernel_rfl
theorem u8s_flat (xs : List UInt8) : ∀ v ∈ u8s xs,flat0 v = true:=fun v hv => by
 obtain ⟨b,_,rfl⟩:=List.mem_map.1 hv; rfl
theorem u8s_app (a b : List UInt8) : u8s a ++ u8s b = u8s (a ++ b):=by unfold u8s; rw [List.map_append]
theorem u8s_len (a : List UInt8) : (u8s a).length = a.length:=by simp [u8s]
theorem pu_cells (n : Nat) : List.map (fun (c : UInt8) => Value.int .u8 (c.toNat : Int)) (List.take 4 (leB 4 n)) = u8s (leB 4 n):=by rw [List.take_of_length_le (by rw [leB_len]; omega)]; rfl
def puσ (l : Nat) : Nat:=if l = 66 then 67 else l
def puτ (l : Nat) : Nat:=if l = 67 then 66 else l
theorem pu_wf (xs : List Nat) (acc : List UInt8) (k : Nat) : (puI xs acc k).Wf :=
 ⟨by show NG ≤ 67; decide,Sf.Ok.mk' 3 ⟨⟨rfl,rfl,flat_bnd (u32s_flat xs)⟩,⟨rfl,rfl,fun v hv => okV_bnd 3 v (List.all_eq_true.1 (show ([.slice (some ⟨66,0,none⟩) acc.length (big + 66)] : List Value).all (okV (fun l => Nat.blt l 67) 3) = true from by kernel_rfl) v hv)⟩,⟨rfl,rfl,flat_bnd (u8s_flat acc)⟩,trivial⟩ rfl (fun x hx => by
  have : (puI xs acc k).e.all (fun x => okV (fun l => Nat.blt l 67) 3 x.2) = true:=by kernel_rfl
  exact List.all_eq_true.1 this x hx)⟩
theorem puN_ok (acc : List UInt8) (σ : Nat → Nat) (p : Nat → Bool) (h : keeps 67 68 σ p 65 = true) (h7 : keeps 67 68 σ p 67 = true) : (puN acc).Ok (keeps 67 68 σ p) :=
 ⟨⟨⟨h,rfl,fun v hv => by
  obtain rfl:=List.mem_singleton.1 hv
  rw [bnd_slice]
  simp only [rr, tt, bndA,h7,Bool.and_true,Bool.true_and,Bool.or_eq_true]
  right
  rw [show big + 67 - big = 67 from Nat.add_sub_cancel_left _ _]; exact h7⟩,⟨h7,h7,flat_bnd (u8s_flat acc)⟩,trivial⟩,by simp [puN,h7],fun x hx => by cases hx⟩
theorem pu_step_next (xs : List Nat) (acc fin : List UInt8) (k : Nat) (hm : xs.length ≤ 100000000) (hk : k < xs.length) (hx : xs.getD k 0 < 4294967296) (ha : acc.length ≤ 100000000000) :
  ∃ g,evC Try.prog (evF Try.prog (baseC 3 selPut) noLoop 100 3) (noLoop 35) 19 100 (loopOf Try.prog 35 0) ((puI xs acc k).frT 19 [(0,true)]) = some (.normal,g) ∧ g.s.O ∧ Sf.Leads 3 (fun l => Nat.blt l 67) puσ (puI xs acc k) g (puI xs (acc ++ leB 4 (xs.getD k 0)) (k + 1)) (puN fin):=by
 have hh:=pu_next xs acc k
 simp only [rr, tt, u32s_at,Int.toNat_natCast,Nat.zero_add,Nat.mul_one,lenT_eq,List.nil_append,leB_len,pu_cells,u8s_app,u8s_len] at hh
 have e4 : acc.length + 4 = (acc ++ leB 4 (xs.getD k 0)).length:=by rw [List.length_append,leB_len]
 rw [e4] at hh
 refine ⟨_,hh,?_,?_⟩
 ·have g1 : hasN (k + 1) (u32s xs) = true:=by rw [u32s_has]; simp; omega
  have g2 : isLikeL [Value.int IntKind.u32 (0 : Int)] (u32s xs) k = true:=by rw [u32s_like]; simp; omega
  have g3 : oneC (u8s (leB 4 (xs.getD k 0))) = true:=oneC_flat (u8s_flat _)
  have g4 : acc.length.beq acc.length = true:=Nat.beq_refl _
  have g6 : (acc.length + 4).ble 1099511627776 = true:=ble_true (by omega)
  have g7 : (acc.length + 4).blt 4611686018427387904 = true:=blt_true (by omega)
  have g8 : decide ((0 : Int) ≤ (k : Int)) = true:=by simp
  have g9 : decide ((k : Int) < (xs.length : Int)) = true:=by simp; omega
  have g10 : (0 : Int) ≤ ((xs.getD k 0 : Nat) : Int):=by omega
  have g11 : ((xs.getD k 0 : Nat) : Int) < 4294967296:=by omega
  simp only [rr, tt, u8s_len,leB_len,List.length_append,Nat.mul_one,Nat.beq_refl,g1,g2,g3,g4,g6,g7,g8,g9,g10,g11,Bool.and_self,cond_true,and_true,true_and,and_self,or_true,List.length_nil,Nat.zero_le]
 ·refine ⟨fun l hl => ?_,⟨⟨rfl,flat_all (u32s_flat xs),rfl,rfl,rfl,trivial,(flat_map (u32s_flat xs)).symm⟩,⟨rfl,by kernel_rfl,rfl,rfl,rfl,trivial,by kernel_rfl⟩,⟨rfl,flat_all (u8s_flat _),rfl,rfl,rfl,trivial,(flat_map (u8s_flat _)).symm⟩,trivial⟩,rfl,⟨⟨rfl,Nat.le_refl _⟩,trivial⟩,⟨⟨by kernel_rfl,by kernel_rfl⟩,⟨by kernel_rfl,by kernel_rfl⟩,⟨by kernel_rfl,by kernel_rfl⟩,⟨rfl,by kernel_rfl⟩,⟨rfl,?_⟩,trivial⟩,Nat.le_refl _,fun l hl => blt_no hl,puN_ok fin puσ _ rfl rfl,?_⟩
  ·unfold puσ; have : NG ≤ 66:=by decide
   rw [if_neg (by omega)]
  ·refine Eq.trans (b:=Value.int .i64 (IntKind.i64.wrap ((k : Int) + 1))) (by kernel_rfl) ?_
   rw [cast_succ_i64 k (by omega)]; rfl
  ·intro x hx hrw
   simp only [rr, tt, puI,List.mem_cons,List.not_mem_nil,or_false] at hx
   rcases hx with rfl | rfl | rfl
   ·exact .inl rfl
   ·cases hrw
   ·cases hrw
theorem pu_step_end (xs : List Nat) (acc : List UInt8) (k : Nat) (hk : k = xs.length) :
  ∃ g,evC Try.prog (evF Try.prog (baseC 3 selPut) noLoop 100 3) (noLoop 35) 19 100 (loopOf Try.prog 35 0) ((puI xs acc k).frT 19 [(0,false)]) = some (.exit 0,g) ∧ g.s.O ∧ Sf.Leads 3 (fun l => Nat.blt l 68) puτ (puI xs acc k) g (puN acc) (puN acc):=by
 refine ⟨_,pu_end xs acc k,?_,?_⟩
 ·subst hk; simp
 ·refine ⟨fun l hl => ?_,⟨⟨rfl,by kernel_rfl,rfl,rfl,rfl,trivial,by kernel_rfl⟩,⟨rfl,flat_all (u8s_flat _),rfl,rfl,rfl,trivial,(flat_map (u8s_flat _)).symm⟩,trivial⟩,rfl,⟨⟨rfl,Nat.le_refl _⟩,trivial⟩,trivial,by show 67 ≤ 68; omega,fun l hl => blt_no hl,puN_ok acc puτ _ rfl rfl,fun x hx hrw => ?_⟩
  ·unfold puτ; have : NG ≤ 66:=by decide
   rw [if_neg (by omega)]
  ·simp only [rr, tt, puN,List.mem_cons,List.not_mem_nil,or_false] at hx
   rcases hx with rfl | rfl <;> cases hrw
def accN (acc : List UInt8) (xs : List Nat) (k : Nat) : List UInt8:=acc ++ (xs.take k).flatMap (leB 4)
theorem accN_succ (acc : List UInt8) (xs : List Nat) (k : Nat) (h : k < xs.length) : accN acc xs (k + 1) = accN acc xs k ++ leB 4 (xs.getD k 0):=by
 unfold accN
 rw [List.take_add_one,List.getElem?_eq_getElem h,List.flatMap_append,List.append_assoc]
 congr 2
 simp [List.getD_eq_getElem?_getD,List.getElem?_eq_getElem h]
theorem flat4_len : ∀ (l : List Nat),(l.flatMap (leB 4)).length = l.length * 4
 | [] => rfl
 | x :: l => by rw [List.flatMap_cons,List.length_append,flat4_len l,leB_len,List.length_cons]; omega
theorem accN_len (acc : List UInt8) (xs : List Nat) (k : Nat) : (accN acc xs k).length ≤ acc.length + xs.length * 4:=by
 unfold accN
 rw [List.length_append,flat4_len,List.length_take]; omega
theorem accN_all (acc : List UInt8) (xs : List Nat) : accN acc xs xs.length = acc ++ xs.flatMap (leB 4):=by unfold accN; rw [List.take_length]
theorem pu_loop (xs : List Nat) (acc : List UInt8) (hm : xs.length ≤ 100000000) (hx : ∀ x ∈ xs,x < 4294967296) (ha : acc.length ≤ 1000000000) :
  ∀ x : { k : Nat // k ≤ xs.length },LoopOk Try.prog 19 (loopOf Try.prog 35 0) ((puI xs (accN acc xs x.1) x.1).fr 19) (.exit 0) ((puN (acc ++ xs.flatMap (leB 4))).fr 19):=by
 have hx' : ∀ i,i < xs.length → xs.getD i 0 < 4294967296:=fun i hi => by
  rw [List.getD_eq_getElem?_getD,List.getElem?_eq_getElem hi]; exact hx _ (List.getElem_mem hi)
 refine loop_ok (L:=100) (run_ok (L:=100) i_names (baseC_ok selPut_ok) (noLoop_ok _) 3) (noLoop_any _ _ 35) (fun _ h => h) (X:={ k : Nat // k ≤ xs.length }) (fun x => puI xs (accN acc xs x.1) x.1) (fun _ => puN (acc ++ xs.flatMap (leB 4))) (fun _ => .exit 0) (fun x => xs.length - x.1) (fun x => pu_wf xs (accN acc xs x.1) x.1) ?_
 rintro ⟨k,hk⟩
 by_cases h : k < xs.length
 ·have hl:=accN_len acc xs k
  obtain ⟨g,h1,h2,h3⟩:=pu_step_next xs (accN acc xs k) (acc ++ xs.flatMap (leB 4)) k hm h (hx' k h) (by omega)
  rw [← accN_succ acc xs k h] at h3
  exact ⟨_,.normal,g,3,_,_,h1,h2,.inl ⟨rfl,⟨k + 1,by omega⟩,by show xs.length - (k + 1) < xs.length - k; omega,rfl,rfl,h3⟩⟩
 ·have he : k = xs.length:=by omega
  obtain ⟨g,h1,h2,h3⟩:=pu_step_end xs (accN acc xs k) k he
  subst he
  rw [accN_all] at h1 h3
  exact ⟨_,.exit 0,g,3,_,_,by rw [accN_all]; exact h1,h2,.inr ⟨by simp,rfl,by rw [accN_all]; exact h3⟩⟩
def puEnt (xs : List Nat) (acc : List UInt8) (hm : xs.length ≤ 100000000) (hx : ∀ x ∈ xs,x < 4294967296) (ha : acc.length ≤ 1000000000) : Ent Try.prog :=
 entC Try.prog 35 0 19 (puI xs acc 0) (.exit 0) (puN (acc ++ xs.flatMap (leB 4))) (by kernel_rfl) (by kernel_rfl) (by
  have:=pu_loop xs acc hm hx ha ⟨0,Nat.zero_le _⟩
  have e : accN acc xs 0 = acc:=by unfold accN; simp
  simp only [rr, tt, e] at this
  exact this)
end Go.Proofs.Ytdljpnebpoaeiaa
namespace Go.Proofs.Ytdljpnebpoaeiaa.Sy
open Go.RowKit
structure FlatC (c : Con) : Prop where
 flat : ∀ x ∈ c.h',x.2.op ≠ none → ∀ v ∈ x.2.cells,flat0 v = true
def Con.useF (q : Prop) (d : Nat) (c : Con) (ρ : List Nat) (args : List Value) (s : St) : Res :=
 bif (c.h'.all fun x => Nat.blt (lift c.n s.n ρ x.1) (s.n + (c.n' - c.n))) && (c.lo'.all fun x => Nat.blt (lift c.n s.n ρ x.1) (s.n + (c.n' - c.n))) && injB (lift c.n s.n ρ) c.h then
  some (rnV (lift c.n s.n ρ) d c.res,
   {n:=s.n + (c.n' - c.n),
    h:=rnHf (lift c.n s.n ρ) d c.h' ++ s.h.filter (fun x => !(c.h.any fun y => y.2.rw && Nat.beq (lift c.n s.n ρ y.1) x.1)),
    lo:=(c.lo'.map fun y => (lift c.n s.n ρ y.1,y.2)) ++ s.lo,
    esc:=s.esc,T:=s.T,k:=s.k,
    O:=s.O ∧ q ∧ sameA (lift c.n s.n ρ) d args c.args ∧ SeenH d (fun l => Nat.blt l c.n) (lift c.n s.n ρ) s.h c.h ∧ SeenO (fun l => Nat.blt l c.n) (lift c.n s.n ρ) s.lo c.lo })
 else none
theorem Con.useF_ok {P : Program} {f : FuncId} {d : Nat} {c : Con} {q : Prop} (hc : q → ConOk P f d c) (hf : FlatC c) {ρ : List Nat} {args : List Value} {s s' : St} {v : Value} (h : c.useF q d ρ args s = some (v,s')) :
  Mono s s' ∧ (s'.O → Enters P f ∧ CallOk P f args s v s'):=by
 have e : c.useF q d ρ args s = c.use q d ρ args s:=by
  unfold Con.useF Con.use
  rw [rnHf_eq (d:=d) hf.flat]
 rw [e] at h
 exact Con.use_ok hc h
def baseF (d : Nat) (sel : SelC) (b : CallK) : CallK:=fun f args s => match sel f args s with
 | some x => x.1.useF x.2.2 d x.2.1 args s
 | none => b f args s
theorem baseF_ok {P : Program} {d : Nat} {sel : SelC} {b : CallK} (h : ∀ f args s c ρ q,sel f args s = some (c,ρ,q) → (q → ConOk P f d c) ∧ FlatC c) (hb : SoundCall P b) : SoundCall P (baseF d sel b):=by
 intro f args s v s' hc
 unfold baseF at hc
 split at hc
 ·rename_i x hx
  obtain ⟨c,ρ,q⟩:=x
  obtain ⟨h1,h2⟩:=h f args s c ρ q hx
  exact Con.useF_ok h1 h2 hc
 ·exact hb f args s v s' hc
def lpEsc {P : Program} (l : List (Ent P)) : FuncId → LoopK:=fun g nt c f => (lpOf l g nt c f).map fun x => (x.1,⟨x.2.e,{ x.2.s with esc:=0 }⟩)
theorem lpEsc_ok {P : Program} (l : List (Ent P)) : ∀ f fn c,P.funcs[f]? = some fn → fn.body = some c → SoundLoop P (loops c) (lpEsc l f):=by
 intro g fn cb h1 h2 nt c f f' x h
 unfold lpEsc at h
 obtain ⟨y,hy,he⟩:=Option.map_eq_some_iff.1 h
 have:=lpOf_ok l g fn cb h1 h2 nt c f y.2 y.1 hy
 simp only [Prod.mk.injEq] at he
 obtain ⟨rfl,rfl⟩:=he
 refine ⟨⟨this.1.1,this.1.2.1,this.1.2.2⟩,fun hm hO r a w Q hf hwf hg hfr hQ => this.2 hm hO r a w Q hf hwf hg hfr ?_⟩
 intro r' a' w' T hf'
 exact hQ r' a' w' (T.trans (To.same T.good rfl rfl rfl)) hf'
theorem loop_okC {P : Program} {lp : LoopK} {nt L : Nat} {c : Code} {S : List Code} (hlp : SoundLoop P S lp) (hS : ∀ c' ∈ loops c,c' ∈ S) {X : Type} (I F : X → Sf) (ex : X → Exit) (μ : X → Nat) (hI : ∀ x,(I x).Wf)
  (hround : ∀ x,∃ (call : CallK) (T : List (Nat × Bool)) (e : Exit) (g : Fr) (d : Nat) (p : Nat → Bool) (σ : Nat → Nat),SoundCall P call ∧ evC P call lp nt L c ((I x).frT nt T) = some (e,g) ∧ g.s.O ∧
   ((e = .normal ∧ ∃ y,μ y < μ x ∧ F y = F x ∧ ex y = ex x ∧ Sf.Leads d p σ (I x) g (I y) (F x)) ∨ (e ≠ .normal ∧ e = ex x ∧ Sf.Leads d p σ (I x) g (F x) (F x)))) :
  ∀ x,LoopOk P nt c ((I x).fr nt) (ex x) ((F x).fr nt):=by
 have key : ∀ m x,μ x = m → LoopOk P nt c ((I x).fr nt) (ex x) ((F x).fr nt):=by
  intro m
  induction m using Nat.strongRecOn with
  | _ m ih =>
   intro x hm r a w Q hf hwf hg hfr hQ
   obtain ⟨call,T,e,g,d,p,σ,hcall,hev,hO,hcase⟩:=hround x
   have hx:=hI x
   have hgl:=hg.low hx.ok.s
   have hfl:=hf.low (hx.ok.t nt)
   refine loopWp_unfold ?_
   refine (evC_ok hcall hlp (draw_ok hcall) L c _ _ _ hS hev hO (r.low (I x).n) a w _ hfl hwf (hgl.same rfl rfl) (low_fresh hx.ng) ?_).1
   intro r1 a1 w1 T0 hf1
   have T1 : To (r.low (I x).n) (I x).st w r1 g.s w1:=T0.start rfl rfl rfl
   rcases hcase with ⟨rfl,y,hy1,hy2,hy3,hL⟩ | ⟨hne,rfl,hL⟩
   ·have hy:=hI y
    have hS:=seenS_of hL.h hL.inj hL.lo
    have hgy:=hS.good hL.σ0 T1.good
    have hfy:=hL.l.fits hL.σ0 hf1
    have hfrY : Fresh (r1.by σ p) (I y).n (F y).n:=fun l hl _ => by
     have h1 : Nat.blt l NG = false:=by
      cases h : Nat.blt l NG
      ·rfl
      ·have:=hy.ng; simp at h; omega
     show (Nat.blt l NG || (p l && r1.d (σ l))) = false
     rw [h1,hL.pn l hl]; rfl
    refine ih (μ y) (by omega) y rfl (r1.by σ p) a1 w1 Q hfy hy.wfn hgy hfrY ?_
    rw [hy2,hy3]
    intro r3 a3 w3 T2 hf3
    obtain ⟨T3,hv⟩:=T1.behind hg hx.ng hL.σ0 hS T2 hL.n hfr hL.keep.s (fun g k hk => hL.ro _ (look_mem hk))
    refine hQ _ a3 w3 T3 ⟨hf3.size,hf3.defers,fun t => ?_⟩
    rcases hL.keep.t nt t with h | h
    ·exact .inl h
    ·exact hv _ _ h (hf3.tmps t)
   ·have hS:=seenS_of hL.h hL.inj hL.lo
    have hgy:=hS.good hL.σ0 T1.good
    have hfy:=hL.l.fits hL.σ0 hf1
    obtain ⟨T3,hv⟩:=T1.behind hg hx.ng hL.σ0 hS (To.refl hgy) hL.n hfr hL.keep.s (fun g k hk => hL.ro _ (look_mem hk))
    have:=hQ _ a1 w1 T3 ⟨hfy.size,hfy.defers,fun t => by
     rcases hL.keep.t nt t with h | h
     ·exact .inl h
     ·exact hv _ _ h (hfy.tmps t)⟩
    cases hex : ex x with
    | normal => exact absurd hex hne
    | _ => rw [hex] at this; exact this
 exact fun x => key _ x rfl
abbrev Steps:=List (Nat × FuncId × Con × List Nat)
def stepAt (n : Nat) (f : FuncId) : Steps → Option (Con × List Nat)
 | [] => none
 | x :: l => bif Nat.beq x.1 n && Nat.beq x.2.1 f then some x.2.2 else stepAt n f l
def selSteps (L : Steps) : SelC:=fun f _ s => (stepAt s.n f L).map fun x => (x.1,x.2,True)
theorem stepAt_mem {n : Nat} {f : FuncId} : ∀ {L : Steps} {c : Con} {ρ : List Nat},stepAt n f L = some (c,ρ) → (n,f,c,ρ) ∈ L
 | [],_,_,h => by cases h
 | x :: l,c,ρ,h => by
  unfold stepAt at h
  cases hb : (Nat.beq x.1 n && Nat.beq x.2.1 f) <;> rw [hb] at h
  ·exact List.mem_cons_of_mem _ (stepAt_mem h)
  ·rw [Bool.and_eq_true] at hb
   have e1:=Nat.eq_of_beq_eq_true hb.1
   have e2:=Nat.eq_of_beq_eq_true hb.2
   obtain ⟨x1,x2,x3⟩:=x
   simp only [cond_true,Option.some.injEq] at h
   subst h e1 e2
   exact List.mem_cons_self ..
theorem selSteps_ok {P : Program} {d : Nat} {L : Steps} (h : ∀ x ∈ L,ConOk P x.2.1 d x.2.2.1 ∧ FlatC x.2.2.1) : ∀ f args s c ρ q,selSteps L f args s = some (c,ρ,q) → (q → ConOk P f d c) ∧ FlatC c:=by
 intro f args s c ρ q hs
 unfold selSteps at hs
 obtain ⟨⟨c',ρ'⟩,h1,h2⟩:=Option.map_eq_some_iff.1 hs
 cases h2
 have:=h _ (stepAt_mem h1)
 exact ⟨fun _ => this.1,this.2⟩
end Go.Proofs.Ytdljpnebpoaeiaa.Sy
namespace Go.Proofs.Ytdljpnebpoaeiaa
open Go.RowKit
open Sy
def pvA (xs : List Nat) : List Value:=[.int .i64 4,.slice (some ⟨64,0,none⟩) xs.length (big + 64),.pointer (some ⟨65,0,none⟩)]
def pvH (xs : List Nat) (acc : List UInt8) : Sy.Heap:=[(64,⟨false,some (0,0),u32s xs,none⟩),(65,⟨true,none,[.slice (some ⟨66,0,none⟩) acc.length (big + 66)],none⟩),(66,⟨true,some (66,1),u8s acc,none⟩)]
def pvE (acc : List UInt8) : Sy.Heap:=[(65,⟨true,none,[.slice (some ⟨67,0,none⟩) acc.length (big + 67)],none⟩),(67,⟨true,some (67,1),u8s acc,none⟩)]
theorem pv_run (xs : List Nat) (acc : List UInt8) (hm : xs.length ≤ 100000000) (hx : ∀ (x : Nat),x ∈ xs → x < 4294967296) (ha : acc.length ≤ 1000000000) : evF Try.prog (baseC 3 selPut) (lpEsc [puEnt xs acc hm hx ha]) 100 10 35 (pvA xs) ⟨67,pvH xs acc,[(66,acc.length)],0,[],0,True⟩ = some (undef,{ n:=68,h:=[(65,⟨true,none,[Value.slice (some ⟨67,0,none⟩) (acc++List.flatMap (leB 4) xs).length 9223372036854775875],none⟩),(67,⟨true,some (67,1),u8s (acc++List.flatMap (leB 4) xs),none⟩),(64,⟨false,some (0,0),u32s xs,none⟩)],lo:=[(67,(acc++List.flatMap (leB 4) xs).length),(66,acc.length)],esc:=0,T:=[],k:=0,O:=True∧(rr (Value.int .i64 4)∧rr (Value.pointer (some ⟨65,0,none⟩))∧rr (Value.slice (some ⟨64,0,none⟩) xs.length 9223372036854775872)∧rr (Value.int .i64 (↑xs.length))∧rr (Value.int .i64 0)∧True)∧((tt∧tt∧True∧rr (u32s xs))∧(tt∧tt∧True∧rr [Value.slice (some ⟨66,0,none⟩) acc.length 9223372036854775874])∧(tt∧tt∧True∧rr (u8s acc))∧True)∧(acc.length ≤ acc.length∧True)∧True : St }):=by kernel_rfl
def pvC (xs : List Nat) (acc : List UInt8) : Con:=⟨pvA xs,67,pvH xs acc,[(66,acc.length)],undef,68,pvE (acc ++ xs.flatMap (leB 4)),[(67,(acc ++ xs.flatMap (leB 4)).length)]⟩
def pvOk (xs : List Nat) (acc : List UInt8) : Prop:=xs.length ≤ 100000000 ∧ (∀ x ∈ xs,x < 4294967296) ∧ acc.length ≤ 1000000000
theorem pv_flat (xs : List Nat) (acc : List UInt8) : FlatC (pvC xs acc):=⟨fun x hx hne => by
 simp only [rr, tt, pvC,pvE,List.mem_cons,List.not_mem_nil,or_false] at hx
 rcases hx with rfl | rfl
 ·exact absurd rfl hne
 ·exact u8s_flat _⟩
theorem pv_con (xs : List Nat) (acc : List UInt8) (h : pvOk xs acc) : ConOk Try.prog 35 3 (pvC xs acc):=by
 obtain ⟨hm,hx,ha⟩:=h
 have k1 : ∀ n : Nat,([.slice (some ⟨66,0,none⟩) n (big + 66)] : List Value).all (okV (fun l => Nat.blt l 67) 3) = true:=fun n => by kernel_rfl
 have k2 : ∀ n : Nat,([.slice (some ⟨67,0,none⟩) n (big + 67)] : List Value).all (okV (fun l => Nat.blt l 68) 3) = true:=fun n => by kernel_rfl
 have k3 : ∀ n : Nat,([.slice (some ⟨67,0,none⟩) n (big + 67)] : List Value).all (okV (keeps 67 68 id (fun l => Nat.blt l 68)) 3) = true:=fun n => by kernel_rfl
 refine conOk_run (T:=[]) (run_ok (L:=100) i_names (baseC_ok selPut_ok) (lpEsc_ok _) 10) ?_ (pv_run xs acc hm hx ha) ?_ (p:=fun l => Nat.blt l 68) (σ:=id) ?_
 ·exact ⟨by show NG ≤ 67; decide,by show 67 ≤ 68; omega,⟨⟨rfl,rfl,flat_bnd (u32s_flat xs)⟩,⟨rfl,rfl,fun v hv => okV_bnd 3 v (List.all_eq_true.1 (k1 _) v hv)⟩,⟨rfl,rfl,flat_bnd (u8s_flat acc)⟩,trivial⟩,rfl,rfl,rfl,by kernel_rfl,rfl,fun x hx v hv => by
   simp only [rr, tt, pvC,pvE,List.mem_cons,List.not_mem_nil,or_false] at hx
   rcases hx with rfl | rfl
   ·exact List.all_eq_true.1 (k2 _) v hv
   ·exact okV_flat0 (u8s_flat _ v hv) 3⟩
 ·repeat' (with_reducible apply And.intro)
  all_goals first | with_reducible rfl | with_reducible trivial | exact Nat.le_refl _
 ·exact ⟨fun _ _ => rfl,⟨⟨rfl,k2 _,rfl,rfl,rfl,trivial,by kernel_rfl⟩,⟨rfl,flat_all (u8s_flat _),rfl,rfl,rfl,trivial,(flat_map (u8s_flat _)).symm⟩,trivial⟩,rfl,⟨⟨rfl,Nat.le_refl _⟩,trivial⟩,⟨rfl,rfl⟩,rfl,⟨⟨rfl,rfl,fun v hv => okV_bnd 3 v (List.all_eq_true.1 (k3 _) v hv)⟩,⟨rfl,rfl,flat_bnd (u8s_flat _)⟩,trivial⟩,rfl,bnd_undef _,fun x _ _ => .inl rfl⟩
end Go.Proofs.Ytdljpnebpoaeiaa
namespace Go.Proofs.Ytdljpnebpoaeiaa
open Go.RowKit
open Sy
def rgB (r : Rl) : List UInt8:=leB 4 r.at_ ++ (leB 4 r.off ++ (leB 4 r.size ++ (leB 1 (bif r.code then 1 else 0) ++ (leB 2 r.perms ++ leB 2 r.typ))))
theorem rgB_len (r : Rl) : (rgB r).length = 17:=by simp [rgB,leB_len]
theorem pu_take (b : List UInt8) : List.map (fun (c : UInt8) => Value.int .u8 (c.toNat : Int)) (List.take (lenT b) b) = u8s b:=by rw [lenT_eq,List.take_length]; rfl
def accR (acc : List UInt8) (xs : List Rl) (k : Nat) : List UInt8:=acc ++ (xs.take k).flatMap rgB
theorem accR_succ (acc : List UInt8) (xs : List Rl) (k : Nat) (h : k < xs.length) : accR acc xs (k + 1) = accR acc xs k ++ rgB (rl0 xs k):=by
 unfold accR
 rw [List.take_add_one,List.getElem?_eq_getElem h,List.flatMap_append,List.append_assoc]
 congr 2
 simp [rl0,List.getD_eq_getElem?_getD,List.getElem?_eq_getElem h]
theorem flatR_len : ∀ (l : List Rl),(l.flatMap rgB).length = l.length * 17
 | [] => rfl
 | x :: l => by rw [List.flatMap_cons,List.length_append,flatR_len l,rgB_len,List.length_cons]; omega
theorem accR_len (acc : List UInt8) (xs : List Rl) (k : Nat) : (accR acc xs k).length ≤ acc.length + xs.length * 17:=by
 unfold accR
 rw [List.length_append,flatR_len,List.length_take]; omega
theorem accR_all (acc : List UInt8) (xs : List Rl) : accR acc xs xs.length = acc ++ xs.flatMap rgB:=by unfold accR; rw [List.take_length]
end Go.Proofs.Ytdljpnebpoaeiaa
namespace Go.Proofs.Ytdljpnebpoaeiaa
open Go.RowKit
open Sy
def eyH (co : List Nat) (ro : List Rl) (so : List Nat) : Sy.Heap:=(64,⟨false,some (0,0),u32s co,none⟩) :: imH ro so
theorem str_u8s (a : List UInt8) : List.map toU8 (List.take a.length (List.drop 0 (u8s a))) = a:=by
 rw [List.drop_zero,List.take_of_length_le (by rw [u8s_len]; exact Nat.le_refl _)]
 unfold u8s
 rw [List.map_map]
 conv => rhs; rw [← List.map_id a]
 apply List.map_congr_left
 intro x _
 show UInt8.ofNat ((x.toNat : Int)).toNat = x
 simp
theorem isU8_u8s (a : List UInt8) (n : Nat) : (List.take n (List.drop 0 (u8s a))).all isU8 = true:=by
 rw [List.drop_zero,List.all_eq_true]
 intro v hv
 obtain ⟨b,_,rfl⟩:=List.mem_map.1 (List.mem_of_mem_take hv)
 rfl
theorem u8s_has (a : List UInt8) (n : Nat) : hasN n (u8s a) = decide (n ≤ a.length):=by
 rw [Bool.eq_iff_iff,hasN_iff]; simp [u8s]
def u4 (x : Int) : List UInt8:=leB 4 (IntKind.u32.wrap x).toNat
def eA0 (p s t : Int) (nc : Nat) : List UInt8:=u4 p ++ (u4 s ++ (u4 t ++ u4 (nc : Int)))
def eA1 (p s t : Int) (co : List Nat) (nr : Nat) (d : List UInt8) : List UInt8:=(eA0 p s t co.length ++ co.flatMap (leB 4)) ++ (u4 (d.length : Int) ++ (d ++ u4 (nr : Int)))
def eA2 (p s t : Int) (co : List Nat) (ro : List Rl) (ns : Nat) (d : List UInt8) : List UInt8:=(eA1 p s t co ro.length d ++ ro.flatMap rgB) ++ u4 (ns : Int)
def imB (p s t : Int) (co : List Nat) (ro : List Rl) (so : List Nat) (d : List UInt8) : List UInt8:=eA2 p s t co ro so.length d ++ so.flatMap (leB 4)
def imS (p s t : Int) (co : List Nat) (ro : List Rl) (so : List Nat) (d : List UInt8) : List UInt8:=bif Nat.beq (errOf p s t co.length d ro so) 0 then imB p s t co ro so d else []
def imR (p s t : Int) (co : List Nat) (ro : List Rl) (so : List Nat) (d : List UInt8) : Value:=.tuple ⟨[.string ⟨⟨imS p s t co ro so d⟩⟩,.int .i64 (errOf p s t co.length d ro so : Nat)]⟩
def imEC (p s t : Int) (co : List Nat) (ro : List Rl) (so : List Nat) (d : List UInt8) : Con:=⟨[imgV p s t co.length ro.length so.length d],67,eyH co ro so,[],imR p s t co ro so d,67,[],[]⟩
theorem err_long {p s t : Int} {nc : Nat} {d : List UInt8} {ro : List Rl} {so : List Nat} (he : errOf p s t nc d ro so = 0) : nc ≤ 4096 ∧ d.length ≤ 16384 ∧ ro.length ≤ 256 ∧ so.length ≤ 4:=by
 unfold errOf at he
 cases hl : isLong nc d.length ro.length so.length <;> rw [hl] at he <;> try (simp at he; done)
 simp [isLong] at hl
 omega
theorem ble_t {a b : Nat} (h : a ≤ b) : Nat.ble a b = true:=ble_true h
theorem blt_t {a b : Nat} (h : a < b) : Nat.blt a b = true:=blt_true h
theorem beq_t {a b : Nat} (h : a = b) : Nat.beq a b = true:=by rw [h,Nat.beq_refl]
theorem beq_f {a b : Nat} (h : a ≠ b) : Nat.beq a b = false:=by
 cases e : Nat.beq a b
 ·rfl
 ·exact absurd (Nat.eq_of_beq_eq_true e) h
theorem u4_len (x : Int) : (u4 x).length = 4:=leB_len _ _
end Go.Proofs.Ytdljpnebpoaeiaa
namespace Go.Proofs.Ytdljpnebpoaeiaa
open Go.RowKit
open Sy
def eaG : Value:=.func (.func 35) ⟨[]⟩ ⟨[.pointer (some ⟨70,0,none⟩)]⟩
def eaT (g : Nat) (n : Nat) : List Value:=[.slice (some ⟨g,0,none⟩) n (big + g)]
def eaI (xs : List Rl) (acc : List UInt8) (k : Nat) : Sf :=
 ⟨82,[(1,.pointer (some ⟨67,0,none⟩)),(5,.pointer (some ⟨70,0,none⟩)),(6,eaG),(55,.slice (some ⟨65,0,none⟩) xs.length (big + 65)),(56,.int .i64 (xs.length : Nat)),(57,.int .i64 (k : Nat))],
  [(65,⟨false,some (0,0),rels xs,none⟩),(70,⟨true,none,eaT 81 acc.length,none⟩),(81,⟨true,some (81,1),u8s acc,none⟩)],[(81,acc.length)]⟩
def eaN (acc : List UInt8) : Sf:=⟨83,[(1,.pointer (some ⟨67,0,none⟩)),(5,.pointer (some ⟨70,0,none⟩)),(6,eaG)],[(70,⟨true,none,eaT 82 acc.length,none⟩),(82,⟨true,some (82,1),u8s acc,none⟩)],[(82,acc.length)]⟩
theorem ea_no (xs : List Rl) (acc : List UInt8) (k : Nat) : evC Try.prog (evF Try.prog (baseC 3 selPut) noLoop 100 5) (noLoop 18) 99 100 (loopOf Try.prog 18 0) (Sf.frT 99 (eaI xs acc k) [(0,true),(5,false)]) = some (Exit.normal,{ e:=[[unk,.pointer (some ⟨67,0,none⟩),unk,unk,unk,.pointer (some ⟨70,0,none⟩),.func (Fn.func 35) { toList:=[] } { toList:=[Value.pointer (some ⟨70,0,none⟩)] },unk,.pointer (some ⟨82,0,none⟩),.int .u32 0,unk,unk,unk,unk,unk,unk],[unk,unk,unk,unk,unk,unk,unk,unk,unk,unk,unk,unk,unk,unk,unk,unk],[unk,unk,unk,unk,unk,unk,unk,unk,unk,unk,unk,unk,unk,unk,unk,unk],[unk,unk,unk,unk,unk,unk,unk,.slice (some ⟨65,0,none⟩) xs.length 9223372036854775873,.int .i64 (↑xs.length),.int .i64 (IntKind.i64.wrap ((↑k : Int) + (1 : Int))),.bool (decide ((↑k : Int) < (↑xs.length : Int))),.pointer (some { block:=65,off:=0 + (↑k : Int).toNat * 6 }),.agg ⟨[.int .u32 (intOf' (getD' undef (rels xs) (0 + (↑k : Int).toNat * 6))),.bool (boolOf' (getD' undef (rels xs) (0 + (↑k : Int).toNat * 6 + 1))),.int .u32 (intOf' (getD' undef (rels xs) (0 + (↑k : Int).toNat * 6 + 1 + 1))),.int .u32 (intOf' (getD' undef (rels xs) (0 + (↑k : Int).toNat * 6 + 1 + 1 + 1))),.int .u16 (intOf' (getD' undef (rels xs) (0 + (↑k : Int).toNat * 6 + 1 + 1 + 1 + 1))),.int .u16 (intOf' (getD' undef (rels xs) (0 + (↑k : Int).toNat * 6 + 1 + 1 + 1 + 1 + 1)))]⟩,.func (Fn.func 35) { toList:=[] } { toList:=[Value.pointer (some ⟨70,0,none⟩)] },.pointer (some ⟨82,0,none⟩),.int .u32 (intOf' (getD' undef (rels xs) (0 + (↑k : Int).toNat * 6)))],[Value.pointer (some { block:=82,off:=2 }),.int .u32 (intOf' (getD' undef (rels xs) (0 + (↑k : Int).toNat * 6 + 1 + 1))),.pointer (some { block:=82,off:=3 }),.int .u32 (intOf' (getD' undef (rels xs) (0 + (↑k : Int).toNat * 6 + 1 + 1 + 1))),.slice (some ⟨83,0,none⟩) 3 3,undef,.pointer (some { block:=82,off:=1 }),.bool (boolOf' (getD' undef (rels xs) (0 + (↑k : Int).toNat * 6 + 1))),.func (Fn.func 35) { toList:=[] } { toList:=[Value.pointer (some ⟨70,0,none⟩)] },.int .u32 0,.slice (some ⟨87,0,none⟩) 1 1,undef,.func (Fn.func 35) { toList:=[] } { toList:=[Value.pointer (some ⟨70,0,none⟩)] },.pointer (some { block:=82,off:=4 }),.int .u16 (intOf' (getD' undef (rels xs) (0 + (↑k : Int).toNat * 6 + 1 + 1 + 1 + 1))),.int .u32 (IntKind.u32.wrap (intOf' (getD' undef (rels xs) (0 + (↑k : Int).toNat * 6 + 1 + 1 + 1 + 1))))],[Value.pointer (some { block:=82,off:=5 }),.int .u16 (intOf' (getD' undef (rels xs) (0 + (↑k : Int).toNat * 6 + 1 + 1 + 1 + 1 + 1))),.int .u32 (IntKind.u32.wrap (intOf' (getD' undef (rels xs) (0 + (↑k : Int).toNat * 6 + 1 + 1 + 1 + 1 + 1)))),.slice (some ⟨89,0,none⟩) 2 2,undef,.int .i64 (IntKind.i64.wrap ((↑k : Int) + (1 : Int))),unk,unk,unk,unk,unk,unk,unk,unk,unk,unk],[unk,unk,unk,unk,unk,unk,unk,unk,unk,unk,unk,unk,unk,unk,unk,unk]],s:={ n:=92,h:=[(91,⟨true,some (91,1),u8s acc ++ List.map (fun c => Value.int .u8 (↑c.toNat)) (List.take (lenT ([] ++ leB 4 (intOf' (getD' undef (rels xs) (0 + (↑k : Int).toNat * 6))).toNat)) ([] ++ leB 4 (intOf' (getD' undef (rels xs) (0 + (↑k : Int).toNat * 6))).toNat)) ++ List.map (fun c => Value.int .u8 (↑c.toNat)) (List.take (lenT ([] ++ leB 4 (intOf' (getD' undef (rels xs) (0 + (↑k : Int).toNat * 6 + 1 + 1))).toNat)) ([] ++ leB 4 (intOf' (getD' undef (rels xs) (0 + (↑k : Int).toNat * 6 + 1 + 1))).toNat)) ++ List.map (fun c => Value.int .u8 (↑c.toNat)) (List.take (lenT ([] ++ leB 4 (intOf' (getD' undef (rels xs) (0 + (↑k : Int).toNat * 6 + 1 + 1 + 1))).toNat)) ([] ++ leB 4 (intOf' (getD' undef (rels xs) (0 + (↑k : Int).toNat * 6 + 1 + 1 + 1))).toNat)) ++ [Value.int .u8 0] ++ List.map (fun c => Value.int .u8 (↑c.toNat)) (List.take (lenT ([] ++ leB 2 (IntKind.u32.wrap (intOf' (getD' undef (rels xs) (0 + (↑k : Int).toNat * 6 + 1 + 1 + 1 + 1)))).toNat)) ([] ++ leB 2 (IntKind.u32.wrap (intOf' (getD' undef (rels xs) (0 + (↑k : Int).toNat * 6 + 1 + 1 + 1 + 1)))).toNat)) ++ List.map (fun c => Value.int .u8 (↑c.toNat)) (List.take (lenT ([] ++ leB 2 (IntKind.u32.wrap (intOf' (getD' undef (rels xs) (0 + (↑k : Int).toNat * 6 + 1 + 1 + 1 + 1 + 1)))).toNat)) ([] ++ leB 2 (IntKind.u32.wrap (intOf' (getD' undef (rels xs) (0 + (↑k : Int).toNat * 6 + 1 + 1 + 1 + 1 + 1)))).toNat)),none⟩),(89,⟨true,none,[Value.int .u32 (IntKind.u32.wrap (intOf' (getD' undef (rels xs) (0 + (↑k : Int).toNat * 6 + 1 + 1 + 1 + 1)))),.int .u32 (IntKind.u32.wrap (intOf' (getD' undef (rels xs) (0 + (↑k : Int).toNat * 6 + 1 + 1 + 1 + 1 + 1))))],none⟩),(87,⟨true,none,[Value.int .u32 0],none⟩),(83,⟨true,none,[Value.int .u32 (intOf' (getD' undef (rels xs) (0 + (↑k : Int).toNat * 6))),.int .u32 (intOf' (getD' undef (rels xs) (0 + (↑k : Int).toNat * 6 + 1 + 1))),.int .u32 (intOf' (getD' undef (rels xs) (0 + (↑k : Int).toNat * 6 + 1 + 1 + 1)))],none⟩),(82,⟨true,none,[Value.int .u32 (intOf' (getD' undef (rels xs) (0 + (↑k : Int).toNat * 6))),.bool (boolOf' (getD' undef (rels xs) (0 + (↑k : Int).toNat * 6 + 1))),.int .u32 (intOf' (getD' undef (rels xs) (0 + (↑k : Int).toNat * 6 + 1 + 1))),.int .u32 (intOf' (getD' undef (rels xs) (0 + (↑k : Int).toNat * 6 + 1 + 1 + 1))),.int .u16 (intOf' (getD' undef (rels xs) (0 + (↑k : Int).toNat * 6 + 1 + 1 + 1 + 1))),.int .u16 (intOf' (getD' undef (rels xs) (0 + (↑k : Int).toNat * 6 + 1 + 1 + 1 + 1 + 1)))],none⟩),(65,⟨false,some (0,0),rels xs,none⟩),(70,⟨true,none,[Value.slice (some ⟨91,0,none⟩) (acc.length + lenT ([] ++ leB 4 (intOf' (getD' undef (rels xs) (0 + (↑k : Int).toNat * 6))).toNat) + lenT ([] ++ leB 4 (intOf' (getD' undef (rels xs) (0 + (↑k : Int).toNat * 6 + 1 + 1))).toNat) + lenT ([] ++ leB 4 (intOf' (getD' undef (rels xs) (0 + (↑k : Int).toNat * 6 + 1 + 1 + 1))).toNat) + 1 + lenT ([] ++ leB 2 (IntKind.u32.wrap (intOf' (getD' undef (rels xs) (0 + (↑k : Int).toNat * 6 + 1 + 1 + 1 + 1)))).toNat) + lenT ([] ++ leB 2 (IntKind.u32.wrap (intOf' (getD' undef (rels xs) (0 + (↑k : Int).toNat * 6 + 1 + 1 + 1 + 1 + 1)))).toNat)) 9223372036854775899],none⟩)],lo:=[(91,acc.length + lenT ([] ++ leB 4 (intOf' (getD' undef (rels xs) (0 + (↑k : Int).toNat * 6))).toNat) + lenT ([] ++ leB 4 (intOf' (getD' undef (rels xs) (0 + (↑k : Int).toNat * 6 + 1 + 1))).toNat) + lenT ([] ++ leB 4 (intOf' (getD' undef (rels xs) (0 + (↑k : Int).toNat * 6 + 1 + 1 + 1))).toNat) + 1 + lenT ([] ++ leB 2 (IntKind.u32.wrap (intOf' (getD' undef (rels xs) (0 + (↑k : Int).toNat * 6 + 1 + 1 + 1 + 1)))).toNat) + lenT ([] ++ leB 2 (IntKind.u32.wrap (intOf' (getD' undef (rels xs) (0 + (↑k : Int).toNat * 6 + 1 + 1 + 1 + 1 + 1)))).toNat)),(90,acc.length + lenT ([] ++ leB 4 (intOf' (getD' undef (rels xs) (0 + (↑k : Int).toNat * 6))).toNat) + lenT ([] ++ leB 4 (intOf' (getD' undef (rels xs) (0 + (↑k : Int).toNat * 6 + 1 + 1))).toNat) + lenT ([] ++ leB 4 (intOf' (getD' undef (rels xs) (0 + (↑k : Int).toNat * 6 + 1 + 1 + 1))).toNat) + 1 + lenT ([] ++ leB 2 (IntKind.u32.wrap (intOf' (getD' undef (rels xs) (0 + (↑k : Int).toNat * 6 + 1 + 1 + 1 + 1)))).toNat)),(88,acc.length + lenT ([] ++ leB 4 (intOf' (getD' undef (rels xs) (0 + (↑k : Int).toNat * 6))).toNat) + lenT ([] ++ leB 4 (intOf' (getD' undef (rels xs) (0 + (↑k : Int).toNat * 6 + 1 + 1))).toNat) + lenT ([] ++ leB 4 (intOf' (getD' undef (rels xs) (0 + (↑k : Int).toNat * 6 + 1 + 1 + 1))).toNat) + 1),(86,acc.length + lenT ([] ++ leB 4 (intOf' (getD' undef (rels xs) (0 + (↑k : Int).toNat * 6))).toNat) + lenT ([] ++ leB 4 (intOf' (getD' undef (rels xs) (0 + (↑k : Int).toNat * 6 + 1 + 1))).toNat) + lenT ([] ++ leB 4 (intOf' (getD' undef (rels xs) (0 + (↑k : Int).toNat * 6 + 1 + 1 + 1))).toNat)),(85,acc.length + lenT ([] ++ leB 4 (intOf' (getD' undef (rels xs) (0 + (↑k : Int).toNat * 6))).toNat) + lenT ([] ++ leB 4 (intOf' (getD' undef (rels xs) (0 + (↑k : Int).toNat * 6 + 1 + 1))).toNat)),(84,acc.length + lenT ([] ++ leB 4 (intOf' (getD' undef (rels xs) (0 + (↑k : Int).toNat * 6))).toNat)),(81,acc.length)],esc:=0,T:=[],k:=6,O:=bif (lenT (u8s acc ++ List.map (fun c => Value.int .u8 (↑c.toNat)) (List.take (lenT ([] ++ leB 4 (intOf' (getD' undef (rels xs) (0 + (↑k : Int).toNat * 6))).toNat)) ([] ++ leB 4 (intOf' (getD' undef (rels xs) (0 + (↑k : Int).toNat * 6))).toNat)) ++ List.map (fun c => Value.int .u8 (↑c.toNat)) (List.take (lenT ([] ++ leB 4 (intOf' (getD' undef (rels xs) (0 + (↑k : Int).toNat * 6 + 1 + 1))).toNat)) ([] ++ leB 4 (intOf' (getD' undef (rels xs) (0 + (↑k : Int).toNat * 6 + 1 + 1))).toNat)) ++ List.map (fun c => Value.int .u8 (↑c.toNat)) (List.take (lenT ([] ++ leB 4 (intOf' (getD' undef (rels xs) (0 + (↑k : Int).toNat * 6 + 1 + 1 + 1))).toNat)) ([] ++ leB 4 (intOf' (getD' undef (rels xs) (0 + (↑k : Int).toNat * 6 + 1 + 1 + 1))).toNat)) ++ [Value.int .u8 0] ++ List.map (fun c => Value.int .u8 (↑c.toNat)) (List.take (lenT ([] ++ leB 2 (IntKind.u32.wrap (intOf' (getD' undef (rels xs) (0 + (↑k : Int).toNat * 6 + 1 + 1 + 1 + 1)))).toNat)) ([] ++ leB 2 (IntKind.u32.wrap (intOf' (getD' undef (rels xs) (0 + (↑k : Int).toNat * 6 + 1 + 1 + 1 + 1)))).toNat)))).beq ((acc.length + lenT ([] ++ leB 4 (intOf' (getD' undef (rels xs) (0 + (↑k : Int).toNat * 6))).toNat) + lenT ([] ++ leB 4 (intOf' (getD' undef (rels xs) (0 + (↑k : Int).toNat * 6 + 1 + 1))).toNat) + lenT ([] ++ leB 4 (intOf' (getD' undef (rels xs) (0 + (↑k : Int).toNat * 6 + 1 + 1 + 1))).toNat) + 1 + lenT ([] ++ leB 2 (IntKind.u32.wrap (intOf' (getD' undef (rels xs) (0 + (↑k : Int).toNat * 6 + 1 + 1 + 1 + 1)))).toNat)) * 1) then bif (lenT (List.map (fun c => Value.int .u8 (↑c.toNat)) (List.take (lenT ([] ++ leB 2 (IntKind.u32.wrap (intOf' (getD' undef (rels xs) (0 + (↑k : Int).toNat * 6 + 1 + 1 + 1 + 1 + 1)))).toNat)) ([] ++ leB 2 (IntKind.u32.wrap (intOf' (getD' undef (rels xs) (0 + (↑k : Int).toNat * 6 + 1 + 1 + 1 + 1 + 1)))).toNat)))).beq (lenT ([] ++ leB 2 (IntKind.u32.wrap (intOf' (getD' undef (rels xs) (0 + (↑k : Int).toNat * 6 + 1 + 1 + 1 + 1 + 1)))).toNat) * 1) && oneC (List.map (fun c => Value.int .u8 (↑c.toNat)) (List.take (lenT ([] ++ leB 2 (IntKind.u32.wrap (intOf' (getD' undef (rels xs) (0 + (↑k : Int).toNat * 6 + 1 + 1 + 1 + 1 + 1)))).toNat)) ([] ++ leB 2 (IntKind.u32.wrap (intOf' (getD' undef (rels xs) (0 + (↑k : Int).toNat * 6 + 1 + 1 + 1 + 1 + 1)))).toNat))) && ((acc.length + lenT ([] ++ leB 4 (intOf' (getD' undef (rels xs) (0 + (↑k : Int).toNat * 6))).toNat) + lenT ([] ++ leB 4 (intOf' (getD' undef (rels xs) (0 + (↑k : Int).toNat * 6 + 1 + 1))).toNat) + lenT ([] ++ leB 4 (intOf' (getD' undef (rels xs) (0 + (↑k : Int).toNat * 6 + 1 + 1 + 1))).toNat) + 1 + lenT ([] ++ leB 2 (IntKind.u32.wrap (intOf' (getD' undef (rels xs) (0 + (↑k : Int).toNat * 6 + 1 + 1 + 1 + 1)))).toNat) + lenT ([] ++ leB 2 (IntKind.u32.wrap (intOf' (getD' undef (rels xs) (0 + (↑k : Int).toNat * 6 + 1 + 1 + 1 + 1 + 1)))).toNat)) * 1).ble 1099511627776 && (acc.length + lenT ([] ++ leB 4 (intOf' (getD' undef (rels xs) (0 + (↑k : Int).toNat * 6))).toNat) + lenT ([] ++ leB 4 (intOf' (getD' undef (rels xs) (0 + (↑k : Int).toNat * 6 + 1 + 1))).toNat) + lenT ([] ++ leB 4 (intOf' (getD' undef (rels xs) (0 + (↑k : Int).toNat * 6 + 1 + 1 + 1))).toNat) + 1 + lenT ([] ++ leB 2 (IntKind.u32.wrap (intOf' (getD' undef (rels xs) (0 + (↑k : Int).toNat * 6 + 1 + 1 + 1 + 1)))).toNat) + lenT ([] ++ leB 2 (IntKind.u32.wrap (intOf' (getD' undef (rels xs) (0 + (↑k : Int).toNat * 6 + 1 + 1 + 1 + 1 + 1)))).toNat)).blt 4611686018427387904 then (bif (lenT (u8s acc ++ List.map (fun c => Value.int .u8 (↑c.toNat)) (List.take (lenT ([] ++ leB 4 (intOf' (getD' undef (rels xs) (0 + (↑k : Int).toNat * 6))).toNat)) ([] ++ leB 4 (intOf' (getD' undef (rels xs) (0 + (↑k : Int).toNat * 6))).toNat)) ++ List.map (fun c => Value.int .u8 (↑c.toNat)) (List.take (lenT ([] ++ leB 4 (intOf' (getD' undef (rels xs) (0 + (↑k : Int).toNat * 6 + 1 + 1))).toNat)) ([] ++ leB 4 (intOf' (getD' undef (rels xs) (0 + (↑k : Int).toNat * 6 + 1 + 1))).toNat)) ++ List.map (fun c => Value.int .u8 (↑c.toNat)) (List.take (lenT ([] ++ leB 4 (intOf' (getD' undef (rels xs) (0 + (↑k : Int).toNat * 6 + 1 + 1 + 1))).toNat)) ([] ++ leB 4 (intOf' (getD' undef (rels xs) (0 + (↑k : Int).toNat * 6 + 1 + 1 + 1))).toNat)) ++ [Value.int .u8 0])).beq ((acc.length + lenT ([] ++ leB 4 (intOf' (getD' undef (rels xs) (0 + (↑k : Int).toNat * 6))).toNat) + lenT ([] ++ leB 4 (intOf' (getD' undef (rels xs) (0 + (↑k : Int).toNat * 6 + 1 + 1))).toNat) + lenT ([] ++ leB 4 (intOf' (getD' undef (rels xs) (0 + (↑k : Int).toNat * 6 + 1 + 1 + 1))).toNat) + 1) * 1) then bif (lenT (List.map (fun c => Value.int .u8 (↑c.toNat)) (List.take (lenT ([] ++ leB 2 (IntKind.u32.wrap (intOf' (getD' undef (rels xs) (0 + (↑k : Int).toNat * 6 + 1 + 1 + 1 + 1)))).toNat)) ([] ++ leB 2 (IntKind.u32.wrap (intOf' (getD' undef (rels xs) (0 + (↑k : Int).toNat * 6 + 1 + 1 + 1 + 1)))).toNat)))).beq (lenT ([] ++ leB 2 (IntKind.u32.wrap (intOf' (getD' undef (rels xs) (0 + (↑k : Int).toNat * 6 + 1 + 1 + 1 + 1)))).toNat) * 1) && oneC (List.map (fun c => Value.int .u8 (↑c.toNat)) (List.take (lenT ([] ++ leB 2 (IntKind.u32.wrap (intOf' (getD' undef (rels xs) (0 + (↑k : Int).toNat * 6 + 1 + 1 + 1 + 1)))).toNat)) ([] ++ leB 2 (IntKind.u32.wrap (intOf' (getD' undef (rels xs) (0 + (↑k : Int).toNat * 6 + 1 + 1 + 1 + 1)))).toNat))) && ((acc.length + lenT ([] ++ leB 4 (intOf' (getD' undef (rels xs) (0 + (↑k : Int).toNat * 6))).toNat) + lenT ([] ++ leB 4 (intOf' (getD' undef (rels xs) (0 + (↑k : Int).toNat * 6 + 1 + 1))).toNat) + lenT ([] ++ leB 4 (intOf' (getD' undef (rels xs) (0 + (↑k : Int).toNat * 6 + 1 + 1 + 1))).toNat) + 1 + lenT ([] ++ leB 2 (IntKind.u32.wrap (intOf' (getD' undef (rels xs) (0 + (↑k : Int).toNat * 6 + 1 + 1 + 1 + 1)))).toNat)) * 1).ble 1099511627776 && (acc.length + lenT ([] ++ leB 4 (intOf' (getD' undef (rels xs) (0 + (↑k : Int).toNat * 6))).toNat) + lenT ([] ++ leB 4 (intOf' (getD' undef (rels xs) (0 + (↑k : Int).toNat * 6 + 1 + 1))).toNat) + lenT ([] ++ leB 4 (intOf' (getD' undef (rels xs) (0 + (↑k : Int).toNat * 6 + 1 + 1 + 1))).toNat) + 1 + lenT ([] ++ leB 2 (IntKind.u32.wrap (intOf' (getD' undef (rels xs) (0 + (↑k : Int).toNat * 6 + 1 + 1 + 1 + 1)))).toNat)).blt 4611686018427387904 then (bif (lenT (u8s acc ++ List.map (fun c => Value.int .u8 (↑c.toNat)) (List.take (lenT ([] ++ leB 4 (intOf' (getD' undef (rels xs) (0 + (↑k : Int).toNat * 6))).toNat)) ([] ++ leB 4 (intOf' (getD' undef (rels xs) (0 + (↑k : Int).toNat * 6))).toNat)) ++ List.map (fun c => Value.int .u8 (↑c.toNat)) (List.take (lenT ([] ++ leB 4 (intOf' (getD' undef (rels xs) (0 + (↑k : Int).toNat * 6 + 1 + 1))).toNat)) ([] ++ leB 4 (intOf' (getD' undef (rels xs) (0 + (↑k : Int).toNat * 6 + 1 + 1))).toNat)) ++ List.map (fun c => Value.int .u8 (↑c.toNat)) (List.take (lenT ([] ++ leB 4 (intOf' (getD' undef (rels xs) (0 + (↑k : Int).toNat * 6 + 1 + 1 + 1))).toNat)) ([] ++ leB 4 (intOf' (getD' undef (rels xs) (0 + (↑k : Int).toNat * 6 + 1 + 1 + 1))).toNat)))).beq ((acc.length + lenT ([] ++ leB 4 (intOf' (getD' undef (rels xs) (0 + (↑k : Int).toNat * 6))).toNat) + lenT ([] ++ leB 4 (intOf' (getD' undef (rels xs) (0 + (↑k : Int).toNat * 6 + 1 + 1))).toNat) + lenT ([] ++ leB 4 (intOf' (getD' undef (rels xs) (0 + (↑k : Int).toNat * 6 + 1 + 1 + 1))).toNat)) * 1) then bif ((acc.length + lenT ([] ++ leB 4 (intOf' (getD' undef (rels xs) (0 + (↑k : Int).toNat * 6))).toNat) + lenT ([] ++ leB 4 (intOf' (getD' undef (rels xs) (0 + (↑k : Int).toNat * 6 + 1 + 1))).toNat) + lenT ([] ++ leB 4 (intOf' (getD' undef (rels xs) (0 + (↑k : Int).toNat * 6 + 1 + 1 + 1))).toNat) + 1) * 1).ble 1099511627776 && (acc.length + lenT ([] ++ leB 4 (intOf' (getD' undef (rels xs) (0 + (↑k : Int).toNat * 6))).toNat) + lenT ([] ++ leB 4 (intOf' (getD' undef (rels xs) (0 + (↑k : Int).toNat * 6 + 1 + 1))).toNat) + lenT ([] ++ leB 4 (intOf' (getD' undef (rels xs) (0 + (↑k : Int).toNat * 6 + 1 + 1 + 1))).toNat) + 1).blt 4611686018427387904 then ((bif (lenT (u8s acc ++ List.map (fun c => Value.int .u8 (↑c.toNat)) (List.take (lenT ([] ++ leB 4 (intOf' (getD' undef (rels xs) (0 + (↑k : Int).toNat * 6))).toNat)) ([] ++ leB 4 (intOf' (getD' undef (rels xs) (0 + (↑k : Int).toNat * 6))).toNat)) ++ List.map (fun c => Value.int .u8 (↑c.toNat)) (List.take (lenT ([] ++ leB 4 (intOf' (getD' undef (rels xs) (0 + (↑k : Int).toNat * 6 + 1 + 1))).toNat)) ([] ++ leB 4 (intOf' (getD' undef (rels xs) (0 + (↑k : Int).toNat * 6 + 1 + 1))).toNat)))).beq ((acc.length + lenT ([] ++ leB 4 (intOf' (getD' undef (rels xs) (0 + (↑k : Int).toNat * 6))).toNat) + lenT ([] ++ leB 4 (intOf' (getD' undef (rels xs) (0 + (↑k : Int).toNat * 6 + 1 + 1))).toNat)) * 1) then bif (lenT (List.map (fun c => Value.int .u8 (↑c.toNat)) (List.take (lenT ([] ++ leB 4 (intOf' (getD' undef (rels xs) (0 + (↑k : Int).toNat * 6 + 1 + 1 + 1))).toNat)) ([] ++ leB 4 (intOf' (getD' undef (rels xs) (0 + (↑k : Int).toNat * 6 + 1 + 1 + 1))).toNat)))).beq (lenT ([] ++ leB 4 (intOf' (getD' undef (rels xs) (0 + (↑k : Int).toNat * 6 + 1 + 1 + 1))).toNat) * 1) && oneC (List.map (fun c => Value.int .u8 (↑c.toNat)) (List.take (lenT ([] ++ leB 4 (intOf' (getD' undef (rels xs) (0 + (↑k : Int).toNat * 6 + 1 + 1 + 1))).toNat)) ([] ++ leB 4 (intOf' (getD' undef (rels xs) (0 + (↑k : Int).toNat * 6 + 1 + 1 + 1))).toNat))) && ((acc.length + lenT ([] ++ leB 4 (intOf' (getD' undef (rels xs) (0 + (↑k : Int).toNat * 6))).toNat) + lenT ([] ++ leB 4 (intOf' (getD' undef (rels xs) (0 + (↑k : Int).toNat * 6 + 1 + 1))).toNat) + lenT ([] ++ leB 4 (intOf' (getD' undef (rels xs) (0 + (↑k : Int).toNat * 6 + 1 + 1 + 1))).toNat)) * 1).ble 1099511627776 && (acc.length + lenT ([] ++ leB 4 (intOf' (getD' undef (rels xs) (0 + (↑k : Int).toNat * 6))).toNat) + lenT ([] ++ leB 4 (intOf' (getD' undef (rels xs) (0 + (↑k : Int).toNat * 6 + 1 + 1))).toNat) + lenT ([] ++ leB 4 (intOf' (getD' undef (rels xs) (0 + (↑k : Int).toNat * 6 + 1 + 1 + 1))).toNat)).blt 4611686018427387904 then (bif (lenT (u8s acc ++ List.map (fun c => Value.int .u8 (↑c.toNat)) (List.take (lenT ([] ++ leB 4 (intOf' (getD' undef (rels xs) (0 + (↑k : Int).toNat * 6))).toNat)) ([] ++ leB 4 (intOf' (getD' undef (rels xs) (0 + (↑k : Int).toNat * 6))).toNat)))).beq ((acc.length + lenT ([] ++ leB 4 (intOf' (getD' undef (rels xs) (0 + (↑k : Int).toNat * 6))).toNat)) * 1) then bif (lenT (List.map (fun c => Value.int .u8 (↑c.toNat)) (List.take (lenT ([] ++ leB 4 (intOf' (getD' undef (rels xs) (0 + (↑k : Int).toNat * 6 + 1 + 1))).toNat)) ([] ++ leB 4 (intOf' (getD' undef (rels xs) (0 + (↑k : Int).toNat * 6 + 1 + 1))).toNat)))).beq (lenT ([] ++ leB 4 (intOf' (getD' undef (rels xs) (0 + (↑k : Int).toNat * 6 + 1 + 1))).toNat) * 1) && oneC (List.map (fun c => Value.int .u8 (↑c.toNat)) (List.take (lenT ([] ++ leB 4 (intOf' (getD' undef (rels xs) (0 + (↑k : Int).toNat * 6 + 1 + 1))).toNat)) ([] ++ leB 4 (intOf' (getD' undef (rels xs) (0 + (↑k : Int).toNat * 6 + 1 + 1))).toNat))) && ((acc.length + lenT ([] ++ leB 4 (intOf' (getD' undef (rels xs) (0 + (↑k : Int).toNat * 6))).toNat) + lenT ([] ++ leB 4 (intOf' (getD' undef (rels xs) (0 + (↑k : Int).toNat * 6 + 1 + 1))).toNat)) * 1).ble 1099511627776 && (acc.length + lenT ([] ++ leB 4 (intOf' (getD' undef (rels xs) (0 + (↑k : Int).toNat * 6))).toNat) + lenT ([] ++ leB 4 (intOf' (getD' undef (rels xs) (0 + (↑k : Int).toNat * 6 + 1 + 1))).toNat)).blt 4611686018427387904 then (bif (lenT (u8s acc)).beq (acc.length * 1) then bif (lenT (List.map (fun c => Value.int .u8 (↑c.toNat)) (List.take (lenT ([] ++ leB 4 (intOf' (getD' undef (rels xs) (0 + (↑k : Int).toNat * 6))).toNat)) ([] ++ leB 4 (intOf' (getD' undef (rels xs) (0 + (↑k : Int).toNat * 6))).toNat)))).beq (lenT ([] ++ leB 4 (intOf' (getD' undef (rels xs) (0 + (↑k : Int).toNat * 6))).toNat) * 1) && oneC (List.map (fun c => Value.int .u8 (↑c.toNat)) (List.take (lenT ([] ++ leB 4 (intOf' (getD' undef (rels xs) (0 + (↑k : Int).toNat * 6))).toNat)) ([] ++ leB 4 (intOf' (getD' undef (rels xs) (0 + (↑k : Int).toNat * 6))).toNat))) && ((acc.length + lenT ([] ++ leB 4 (intOf' (getD' undef (rels xs) (0 + (↑k : Int).toNat * 6))).toNat)) * 1).ble 1099511627776 && (acc.length + lenT ([] ++ leB 4 (intOf' (getD' undef (rels xs) (0 + (↑k : Int).toNat * 6))).toNat)).blt 4611686018427387904 then (bif hasN (0 + (↑k : Int).toNat * 6 + 6) (rels xs) && isLikeL [Value.int .u32 0,.bool false,.int .u32 0,.int .u32 0,.int .u16 0,.int .u16 0] (rels xs) (0 + (↑k : Int).toNat * 6) then bif decide ((0 : Int) ≤ (↑k : Int)) && decide ((↑k : Int) < (↑xs.length : Int)) then True ∧ decide ((↑k : Int) < (↑xs.length : Int)) = true else False else False) ∧ (([] : List UInt8).length ≤ 1000000000 ∧ ((4 : Int) = (1 : Int) ∨ (4 : Int) = (2 : Int) ∨ (4 : Int) = (4 : Int)) ∧ (0 : Int) ≤ intOf' (getD' undef (rels xs) (0 + (↑k : Int).toNat * 6)) ∧ intOf' (getD' undef (rels xs) (0 + (↑k : Int).toNat * 6)) < (4294967296 : Int)) ∧ (Value.string { data:=#[] : ByteArray } = Value.string ⟨⟨[]⟩⟩ ∧ rr (Value.int .i64 4) ∧ rr (Value.int .u32 (intOf' (getD' undef (rels xs) (0 + (↑k : Int).toNat * 6)))) ∧ True) ∧ True ∧ True else False else False) ∧ (([] : List UInt8).length ≤ 1000000000 ∧ ((4 : Int) = (1 : Int) ∨ (4 : Int) = (2 : Int) ∨ (4 : Int) = (4 : Int)) ∧ (0 : Int) ≤ intOf' (getD' undef (rels xs) (0 + (↑k : Int).toNat * 6 + 1 + 1)) ∧ intOf' (getD' undef (rels xs) (0 + (↑k : Int).toNat * 6 + 1 + 1)) < (4294967296 : Int)) ∧ (Value.string { data:=#[] : ByteArray } = Value.string ⟨⟨[]⟩⟩ ∧ rr (Value.int .i64 4) ∧ rr (Value.int .u32 (intOf' (getD' undef (rels xs) (0 + (↑k : Int).toNat * 6 + 1 + 1)))) ∧ True) ∧ True ∧ True else False else False) ∧ (([] : List UInt8).length ≤ 1000000000 ∧ ((4 : Int) = (1 : Int) ∨ (4 : Int) = (2 : Int) ∨ (4 : Int) = (4 : Int)) ∧ (0 : Int) ≤ intOf' (getD' undef (rels xs) (0 + (↑k : Int).toNat * 6 + 1 + 1 + 1)) ∧ intOf' (getD' undef (rels xs) (0 + (↑k : Int).toNat * 6 + 1 + 1 + 1)) < (4294967296 : Int)) ∧ (Value.string { data:=#[] : ByteArray } = Value.string ⟨⟨[]⟩⟩ ∧ rr (Value.int .i64 4) ∧ rr (Value.int .u32 (intOf' (getD' undef (rels xs) (0 + (↑k : Int).toNat * 6 + 1 + 1 + 1)))) ∧ True) ∧ True ∧ True else False else False) ∧ boolOf' (getD' undef (rels xs) (0 + (↑k : Int).toNat * 6 + 1)) = false) ∧ (([] : List UInt8).length ≤ 1000000000 ∧ ((1 : Int) = (1 : Int) ∨ (1 : Int) = (2 : Int) ∨ (1 : Int) = (4 : Int)) ∧ (0 : Int) ≤ (0 : Int) ∧ (0 : Int) < (4294967296 : Int)) ∧ (Value.string { data:=#[] : ByteArray } = Value.string ⟨⟨[]⟩⟩ ∧ rr (Value.int .i64 1) ∧ rr (Value.int .u32 0) ∧ True) ∧ True ∧ True else False else False) ∧ (([] : List UInt8).length ≤ 1000000000 ∧ ((2 : Int) = (1 : Int) ∨ (2 : Int) = (2 : Int) ∨ (2 : Int) = (4 : Int)) ∧ (0 : Int) ≤ IntKind.u32.wrap (intOf' (getD' undef (rels xs) (0 + (↑k : Int).toNat * 6 + 1 + 1 + 1 + 1))) ∧ IntKind.u32.wrap (intOf' (getD' undef (rels xs) (0 + (↑k : Int).toNat * 6 + 1 + 1 + 1 + 1))) < (4294967296 : Int)) ∧ (Value.string { data:=#[] : ByteArray } = Value.string ⟨⟨[]⟩⟩ ∧ rr (Value.int .i64 2) ∧ rr (Value.int .u32 (IntKind.u32.wrap (intOf' (getD' undef (rels xs) (0 + (↑k : Int).toNat * 6 + 1 + 1 + 1 + 1))))) ∧ True) ∧ True ∧ True else False else False) ∧ (([] : List UInt8).length ≤ 1000000000 ∧ ((2 : Int) = (1 : Int) ∨ (2 : Int) = (2 : Int) ∨ (2 : Int) = (4 : Int)) ∧ (0 : Int) ≤ IntKind.u32.wrap (intOf' (getD' undef (rels xs) (0 + (↑k : Int).toNat * 6 + 1 + 1 + 1 + 1 + 1))) ∧ IntKind.u32.wrap (intOf' (getD' undef (rels xs) (0 + (↑k : Int).toNat * 6 + 1 + 1 + 1 + 1 + 1))) < (4294967296 : Int)) ∧ (Value.string { data:=#[] : ByteArray } = Value.string ⟨⟨[]⟩⟩ ∧ rr (Value.int .i64 2) ∧ rr (Value.int .u32 (IntKind.u32.wrap (intOf' (getD' undef (rels xs) (0 + (↑k : Int).toNat * 6 + 1 + 1 + 1 + 1 + 1))))) ∧ True) ∧ True ∧ True else False else False : St } : Fr }):=by kernel_rfl
theorem ea_yes (xs : List Rl) (acc : List UInt8) (k : Nat) : evC Try.prog (evF Try.prog (baseC 3 selPut) noLoop 100 5) (noLoop 18) 99 100 (loopOf Try.prog 18 0) (Sf.frT 99 (eaI xs acc k) [(0,true),(5,true)]) = some (Exit.normal,{ e:=[[unk,.pointer (some ⟨67,0,none⟩),unk,unk,unk,.pointer (some ⟨70,0,none⟩),.func (Fn.func 35) { toList:=[] } { toList:=[Value.pointer (some ⟨70,0,none⟩)] },unk,.pointer (some ⟨82,0,none⟩),.int .u32 1,unk,unk,unk,unk,unk,unk],[unk,unk,unk,unk,unk,unk,unk,unk,unk,unk,unk,unk,unk,unk,unk,unk],[unk,unk,unk,unk,unk,unk,unk,unk,unk,unk,unk,unk,unk,unk,unk,unk],[unk,unk,unk,unk,unk,unk,unk,.slice (some ⟨65,0,none⟩) xs.length 9223372036854775873,.int .i64 (↑xs.length),.int .i64 (IntKind.i64.wrap ((↑k : Int) + (1 : Int))),.bool (decide ((↑k : Int) < (↑xs.length : Int))),.pointer (some { block:=65,off:=0 + (↑k : Int).toNat * 6 }),.agg ⟨[.int .u32 (intOf' (getD' undef (rels xs) (0 + (↑k : Int).toNat * 6))),.bool (boolOf' (getD' undef (rels xs) (0 + (↑k : Int).toNat * 6 + 1))),.int .u32 (intOf' (getD' undef (rels xs) (0 + (↑k : Int).toNat * 6 + 1 + 1))),.int .u32 (intOf' (getD' undef (rels xs) (0 + (↑k : Int).toNat * 6 + 1 + 1 + 1))),.int .u16 (intOf' (getD' undef (rels xs) (0 + (↑k : Int).toNat * 6 + 1 + 1 + 1 + 1))),.int .u16 (intOf' (getD' undef (rels xs) (0 + (↑k : Int).toNat * 6 + 1 + 1 + 1 + 1 + 1)))]⟩,.func (Fn.func 35) { toList:=[] } { toList:=[Value.pointer (some ⟨70,0,none⟩)] },.pointer (some ⟨82,0,none⟩),.int .u32 (intOf' (getD' undef (rels xs) (0 + (↑k : Int).toNat * 6)))],[Value.pointer (some { block:=82,off:=2 }),.int .u32 (intOf' (getD' undef (rels xs) (0 + (↑k : Int).toNat * 6 + 1 + 1))),.pointer (some { block:=82,off:=3 }),.int .u32 (intOf' (getD' undef (rels xs) (0 + (↑k : Int).toNat * 6 + 1 + 1 + 1))),.slice (some ⟨83,0,none⟩) 3 3,undef,.pointer (some { block:=82,off:=1 }),.bool (boolOf' (getD' undef (rels xs) (0 + (↑k : Int).toNat * 6 + 1))),.func (Fn.func 35) { toList:=[] } { toList:=[Value.pointer (some ⟨70,0,none⟩)] },.int .u32 1,.slice (some ⟨87,0,none⟩) 1 1,undef,.func (Fn.func 35) { toList:=[] } { toList:=[Value.pointer (some ⟨70,0,none⟩)] },.pointer (some { block:=82,off:=4 }),.int .u16 (intOf' (getD' undef (rels xs) (0 + (↑k : Int).toNat * 6 + 1 + 1 + 1 + 1))),.int .u32 (IntKind.u32.wrap (intOf' (getD' undef (rels xs) (0 + (↑k : Int).toNat * 6 + 1 + 1 + 1 + 1))))],[Value.pointer (some { block:=82,off:=5 }),.int .u16 (intOf' (getD' undef (rels xs) (0 + (↑k : Int).toNat * 6 + 1 + 1 + 1 + 1 + 1))),.int .u32 (IntKind.u32.wrap (intOf' (getD' undef (rels xs) (0 + (↑k : Int).toNat * 6 + 1 + 1 + 1 + 1 + 1)))),.slice (some ⟨89,0,none⟩) 2 2,undef,.int .i64 (IntKind.i64.wrap ((↑k : Int) + (1 : Int))),unk,unk,unk,unk,unk,unk,unk,unk,unk,unk],[unk,unk,unk,unk,unk,unk,unk,unk,unk,unk,unk,unk,unk,unk,unk,unk]],s:={ n:=92,h:=[(91,⟨true,some (91,1),u8s acc ++ List.map (fun c => Value.int .u8 (↑c.toNat)) (List.take (lenT ([] ++ leB 4 (intOf' (getD' undef (rels xs) (0 + (↑k : Int).toNat * 6))).toNat)) ([] ++ leB 4 (intOf' (getD' undef (rels xs) (0 + (↑k : Int).toNat * 6))).toNat)) ++ List.map (fun c => Value.int .u8 (↑c.toNat)) (List.take (lenT ([] ++ leB 4 (intOf' (getD' undef (rels xs) (0 + (↑k : Int).toNat * 6 + 1 + 1))).toNat)) ([] ++ leB 4 (intOf' (getD' undef (rels xs) (0 + (↑k : Int).toNat * 6 + 1 + 1))).toNat)) ++ List.map (fun c => Value.int .u8 (↑c.toNat)) (List.take (lenT ([] ++ leB 4 (intOf' (getD' undef (rels xs) (0 + (↑k : Int).toNat * 6 + 1 + 1 + 1))).toNat)) ([] ++ leB 4 (intOf' (getD' undef (rels xs) (0 + (↑k : Int).toNat * 6 + 1 + 1 + 1))).toNat)) ++ [Value.int .u8 1] ++ List.map (fun c => Value.int .u8 (↑c.toNat)) (List.take (lenT ([] ++ leB 2 (IntKind.u32.wrap (intOf' (getD' undef (rels xs) (0 + (↑k : Int).toNat * 6 + 1 + 1 + 1 + 1)))).toNat)) ([] ++ leB 2 (IntKind.u32.wrap (intOf' (getD' undef (rels xs) (0 + (↑k : Int).toNat * 6 + 1 + 1 + 1 + 1)))).toNat)) ++ List.map (fun c => Value.int .u8 (↑c.toNat)) (List.take (lenT ([] ++ leB 2 (IntKind.u32.wrap (intOf' (getD' undef (rels xs) (0 + (↑k : Int).toNat * 6 + 1 + 1 + 1 + 1 + 1)))).toNat)) ([] ++ leB 2 (IntKind.u32.wrap (intOf' (getD' undef (rels xs) (0 + (↑k : Int).toNat * 6 + 1 + 1 + 1 + 1 + 1)))).toNat)),none⟩),(89,⟨true,none,[Value.int .u32 (IntKind.u32.wrap (intOf' (getD' undef (rels xs) (0 + (↑k : Int).toNat * 6 + 1 + 1 + 1 + 1)))),.int .u32 (IntKind.u32.wrap (intOf' (getD' undef (rels xs) (0 + (↑k : Int).toNat * 6 + 1 + 1 + 1 + 1 + 1))))],none⟩),(87,⟨true,none,[Value.int .u32 1],none⟩),(83,⟨true,none,[Value.int .u32 (intOf' (getD' undef (rels xs) (0 + (↑k : Int).toNat * 6))),.int .u32 (intOf' (getD' undef (rels xs) (0 + (↑k : Int).toNat * 6 + 1 + 1))),.int .u32 (intOf' (getD' undef (rels xs) (0 + (↑k : Int).toNat * 6 + 1 + 1 + 1)))],none⟩),(82,⟨true,none,[Value.int .u32 (intOf' (getD' undef (rels xs) (0 + (↑k : Int).toNat * 6))),.bool (boolOf' (getD' undef (rels xs) (0 + (↑k : Int).toNat * 6 + 1))),.int .u32 (intOf' (getD' undef (rels xs) (0 + (↑k : Int).toNat * 6 + 1 + 1))),.int .u32 (intOf' (getD' undef (rels xs) (0 + (↑k : Int).toNat * 6 + 1 + 1 + 1))),.int .u16 (intOf' (getD' undef (rels xs) (0 + (↑k : Int).toNat * 6 + 1 + 1 + 1 + 1))),.int .u16 (intOf' (getD' undef (rels xs) (0 + (↑k : Int).toNat * 6 + 1 + 1 + 1 + 1 + 1)))],none⟩),(65,⟨false,some (0,0),rels xs,none⟩),(70,⟨true,none,[Value.slice (some ⟨91,0,none⟩) (acc.length + lenT ([] ++ leB 4 (intOf' (getD' undef (rels xs) (0 + (↑k : Int).toNat * 6))).toNat) + lenT ([] ++ leB 4 (intOf' (getD' undef (rels xs) (0 + (↑k : Int).toNat * 6 + 1 + 1))).toNat) + lenT ([] ++ leB 4 (intOf' (getD' undef (rels xs) (0 + (↑k : Int).toNat * 6 + 1 + 1 + 1))).toNat) + 1 + lenT ([] ++ leB 2 (IntKind.u32.wrap (intOf' (getD' undef (rels xs) (0 + (↑k : Int).toNat * 6 + 1 + 1 + 1 + 1)))).toNat) + lenT ([] ++ leB 2 (IntKind.u32.wrap (intOf' (getD' undef (rels xs) (0 + (↑k : Int).toNat * 6 + 1 + 1 + 1 + 1 + 1)))).toNat)) 9223372036854775899],none⟩)],lo:=[(91,acc.length + lenT ([] ++ leB 4 (intOf' (getD' undef (rels xs) (0 + (↑k : Int).toNat * 6))).toNat) + lenT ([] ++ leB 4 (intOf' (getD' undef (rels xs) (0 + (↑k : Int).toNat * 6 + 1 + 1))).toNat) + lenT ([] ++ leB 4 (intOf' (getD' undef (rels xs) (0 + (↑k : Int).toNat * 6 + 1 + 1 + 1))).toNat) + 1 + lenT ([] ++ leB 2 (IntKind.u32.wrap (intOf' (getD' undef (rels xs) (0 + (↑k : Int).toNat * 6 + 1 + 1 + 1 + 1)))).toNat) + lenT ([] ++ leB 2 (IntKind.u32.wrap (intOf' (getD' undef (rels xs) (0 + (↑k : Int).toNat * 6 + 1 + 1 + 1 + 1 + 1)))).toNat)),(90,acc.length + lenT ([] ++ leB 4 (intOf' (getD' undef (rels xs) (0 + (↑k : Int).toNat * 6))).toNat) + lenT ([] ++ leB 4 (intOf' (getD' undef (rels xs) (0 + (↑k : Int).toNat * 6 + 1 + 1))).toNat) + lenT ([] ++ leB 4 (intOf' (getD' undef (rels xs) (0 + (↑k : Int).toNat * 6 + 1 + 1 + 1))).toNat) + 1 + lenT ([] ++ leB 2 (IntKind.u32.wrap (intOf' (getD' undef (rels xs) (0 + (↑k : Int).toNat * 6 + 1 + 1 + 1 + 1)))).toNat)),(88,acc.length + lenT ([] ++ leB 4 (intOf' (getD' undef (rels xs) (0 + (↑k : Int).toNat * 6))).toNat) + lenT ([] ++ leB 4 (intOf' (getD' undef (rels xs) (0 + (↑k : Int).toNat * 6 + 1 + 1))).toNat) + lenT ([] ++ leB 4 (intOf' (getD' undef (rels xs) (0 + (↑k : Int).toNat * 6 + 1 + 1 + 1))).toNat) + 1),(86,acc.length + lenT ([] ++ leB 4 (intOf' (getD' undef (rels xs) (0 + (↑k : Int).toNat * 6))).toNat) + lenT ([] ++ leB 4 (intOf' (getD' undef (rels xs) (0 + (↑k : Int).toNat * 6 + 1 + 1))).toNat) + lenT ([] ++ leB 4 (intOf' (getD' undef (rels xs) (0 + (↑k : Int).toNat * 6 + 1 + 1 + 1))).toNat)),(85,acc.length + lenT ([] ++ leB 4 (intOf' (getD' undef (rels xs) (0 + (↑k : Int).toNat * 6))).toNat) + lenT ([] ++ leB 4 (intOf' (getD' undef (rels xs) (0 + (↑k : Int).toNat * 6 + 1 + 1))).toNat)),(84,acc.length + lenT ([] ++ leB 4 (intOf' (getD' undef (rels xs) (0 + (↑k : Int).toNat * 6))).toNat)),(81,acc.length)],esc:=0,T:=[],k:=6,O:=bif (lenT (u8s acc ++ List.map (fun c => Value.int .u8 (↑c.toNat)) (List.take (lenT ([] ++ leB 4 (intOf' (getD' undef (rels xs) (0 + (↑k : Int).toNat * 6))).toNat)) ([] ++ leB 4 (intOf' (getD' undef (rels xs) (0 + (↑k : Int).toNat * 6))).toNat)) ++ List.map (fun c => Value.int .u8 (↑c.toNat)) (List.take (lenT ([] ++ leB 4 (intOf' (getD' undef (rels xs) (0 + (↑k : Int).toNat * 6 + 1 + 1))).toNat)) ([] ++ leB 4 (intOf' (getD' undef (rels xs) (0 + (↑k : Int).toNat * 6 + 1 + 1))).toNat)) ++ List.map (fun c => Value.int .u8 (↑c.toNat)) (List.take (lenT ([] ++ leB 4 (intOf' (getD' undef (rels xs) (0 + (↑k : Int).toNat * 6 + 1 + 1 + 1))).toNat)) ([] ++ leB 4 (intOf' (getD' undef (rels xs) (0 + (↑k : Int).toNat * 6 + 1 + 1 + 1))).toNat)) ++ [Value.int .u8 1] ++ List.map (fun c => Value.int .u8 (↑c.toNat)) (List.take (lenT ([] ++ leB 2 (IntKind.u32.wrap (intOf' (getD' undef (rels xs) (0 + (↑k : Int).toNat * 6 + 1 + 1 + 1 + 1)))).toNat)) ([] ++ leB 2 (IntKind.u32.wrap (intOf' (getD' undef (rels xs) (0 + (↑k : Int).toNat * 6 + 1 + 1 + 1 + 1)))).toNat)))).beq ((acc.length + lenT ([] ++ leB 4 (intOf' (getD' undef (rels xs) (0 + (↑k : Int).toNat * 6))).toNat) + lenT ([] ++ leB 4 (intOf' (getD' undef (rels xs) (0 + (↑k : Int).toNat * 6 + 1 + 1))).toNat) + lenT ([] ++ leB 4 (intOf' (getD' undef (rels xs) (0 + (↑k : Int).toNat * 6 + 1 + 1 + 1))).toNat) + 1 + lenT ([] ++ leB 2 (IntKind.u32.wrap (intOf' (getD' undef (rels xs) (0 + (↑k : Int).toNat * 6 + 1 + 1 + 1 + 1)))).toNat)) * 1) then bif (lenT (List.map (fun c => Value.int .u8 (↑c.toNat)) (List.take (lenT ([] ++ leB 2 (IntKind.u32.wrap (intOf' (getD' undef (rels xs) (0 + (↑k : Int).toNat * 6 + 1 + 1 + 1 + 1 + 1)))).toNat)) ([] ++ leB 2 (IntKind.u32.wrap (intOf' (getD' undef (rels xs) (0 + (↑k : Int).toNat * 6 + 1 + 1 + 1 + 1 + 1)))).toNat)))).beq (lenT ([] ++ leB 2 (IntKind.u32.wrap (intOf' (getD' undef (rels xs) (0 + (↑k : Int).toNat * 6 + 1 + 1 + 1 + 1 + 1)))).toNat) * 1) && oneC (List.map (fun c => Value.int .u8 (↑c.toNat)) (List.take (lenT ([] ++ leB 2 (IntKind.u32.wrap (intOf' (getD' undef (rels xs) (0 + (↑k : Int).toNat * 6 + 1 + 1 + 1 + 1 + 1)))).toNat)) ([] ++ leB 2 (IntKind.u32.wrap (intOf' (getD' undef (rels xs) (0 + (↑k : Int).toNat * 6 + 1 + 1 + 1 + 1 + 1)))).toNat))) && ((acc.length + lenT ([] ++ leB 4 (intOf' (getD' undef (rels xs) (0 + (↑k : Int).toNat * 6))).toNat) + lenT ([] ++ leB 4 (intOf' (getD' undef (rels xs) (0 + (↑k : Int).toNat * 6 + 1 + 1))).toNat) + lenT ([] ++ leB 4 (intOf' (getD' undef (rels xs) (0 + (↑k : Int).toNat * 6 + 1 + 1 + 1))).toNat) + 1 + lenT ([] ++ leB 2 (IntKind.u32.wrap (intOf' (getD' undef (rels xs) (0 + (↑k : Int).toNat * 6 + 1 + 1 + 1 + 1)))).toNat) + lenT ([] ++ leB 2 (IntKind.u32.wrap (intOf' (getD' undef (rels xs) (0 + (↑k : Int).toNat * 6 + 1 + 1 + 1 + 1 + 1)))).toNat)) * 1).ble 1099511627776 && (acc.length + lenT ([] ++ leB 4 (intOf' (getD' undef (rels xs) (0 + (↑k : Int).toNat * 6))).toNat) + lenT ([] ++ leB 4 (intOf' (getD' undef (rels xs) (0 + (↑k : Int).toNat * 6 + 1 + 1))).toNat) + lenT ([] ++ leB 4 (intOf' (getD' undef (rels xs) (0 + (↑k : Int).toNat * 6 + 1 + 1 + 1))).toNat) + 1 + lenT ([] ++ leB 2 (IntKind.u32.wrap (intOf' (getD' undef (rels xs) (0 + (↑k : Int).toNat * 6 + 1 + 1 + 1 + 1)))).toNat) + lenT ([] ++ leB 2 (IntKind.u32.wrap (intOf' (getD' undef (rels xs) (0 + (↑k : Int).toNat * 6 + 1 + 1 + 1 + 1 + 1)))).toNat)).blt 4611686018427387904 then (bif (lenT (u8s acc ++ List.map (fun c => Value.int .u8 (↑c.toNat)) (List.take (lenT ([] ++ leB 4 (intOf' (getD' undef (rels xs) (0 + (↑k : Int).toNat * 6))).toNat)) ([] ++ leB 4 (intOf' (getD' undef (rels xs) (0 + (↑k : Int).toNat * 6))).toNat)) ++ List.map (fun c => Value.int .u8 (↑c.toNat)) (List.take (lenT ([] ++ leB 4 (intOf' (getD' undef (rels xs) (0 + (↑k : Int).toNat * 6 + 1 + 1))).toNat)) ([] ++ leB 4 (intOf' (getD' undef (rels xs) (0 + (↑k : Int).toNat * 6 + 1 + 1))).toNat)) ++ List.map (fun c => Value.int .u8 (↑c.toNat)) (List.take (lenT ([] ++ leB 4 (intOf' (getD' undef (rels xs) (0 + (↑k : Int).toNat * 6 + 1 + 1 + 1))).toNat)) ([] ++ leB 4 (intOf' (getD' undef (rels xs) (0 + (↑k : Int).toNat * 6 + 1 + 1 + 1))).toNat)) ++ [Value.int .u8 1])).beq ((acc.length + lenT ([] ++ leB 4 (intOf' (getD' undef (rels xs) (0 + (↑k : Int).toNat * 6))).toNat) + lenT ([] ++ leB 4 (intOf' (getD' undef (rels xs) (0 + (↑k : Int).toNat * 6 + 1 + 1))).toNat) + lenT ([] ++ leB 4 (intOf' (getD' undef (rels xs) (0 + (↑k : Int).toNat * 6 + 1 + 1 + 1))).toNat) + 1) * 1) then bif (lenT (List.map (fun c => Value.int .u8 (↑c.toNat)) (List.take (lenT ([] ++ leB 2 (IntKind.u32.wrap (intOf' (getD' undef (rels xs) (0 + (↑k : Int).toNat * 6 + 1 + 1 + 1 + 1)))).toNat)) ([] ++ leB 2 (IntKind.u32.wrap (intOf' (getD' undef (rels xs) (0 + (↑k : Int).toNat * 6 + 1 + 1 + 1 + 1)))).toNat)))).beq (lenT ([] ++ leB 2 (IntKind.u32.wrap (intOf' (getD' undef (rels xs) (0 + (↑k : Int).toNat * 6 + 1 + 1 + 1 + 1)))).toNat) * 1) && oneC (List.map (fun c => Value.int .u8 (↑c.toNat)) (List.take (lenT ([] ++ leB 2 (IntKind.u32.wrap (intOf' (getD' undef (rels xs) (0 + (↑k : Int).toNat * 6 + 1 + 1 + 1 + 1)))).toNat)) ([] ++ leB 2 (IntKind.u32.wrap (intOf' (getD' undef (rels xs) (0 + (↑k : Int).toNat * 6 + 1 + 1 + 1 + 1)))).toNat))) && ((acc.length + lenT ([] ++ leB 4 (intOf' (getD' undef (rels xs) (0 + (↑k : Int).toNat * 6))).toNat) + lenT ([] ++ leB 4 (intOf' (getD' undef (rels xs) (0 + (↑k : Int).toNat * 6 + 1 + 1))).toNat) + lenT ([] ++ leB 4 (intOf' (getD' undef (rels xs) (0 + (↑k : Int).toNat * 6 + 1 + 1 + 1))).toNat) + 1 + lenT ([] ++ leB 2 (IntKind.u32.wrap (intOf' (getD' undef (rels xs) (0 + (↑k : Int).toNat * 6 + 1 + 1 + 1 + 1)))).toNat)) * 1).ble 1099511627776 && (acc.length + lenT ([] ++ leB 4 (intOf' (getD' undef (rels xs) (0 + (↑k : Int).toNat * 6))).toNat) + lenT ([] ++ leB 4 (intOf' (getD' undef (rels xs) (0 + (↑k : Int).toNat * 6 + 1 + 1))).toNat) + lenT ([] ++ leB 4 (intOf' (getD' undef (rels xs) (0 + (↑k : Int).toNat * 6 + 1 + 1 + 1))).toNat) + 1 + lenT ([] ++ leB 2 (IntKind.u32.wrap (intOf' (getD' undef (rels xs) (0 + (↑k : Int).toNat * 6 + 1 + 1 + 1 + 1)))).toNat)).blt 4611686018427387904 then (bif (lenT (u8s acc ++ List.map (fun c => Value.int .u8 (↑c.toNat)) (List.take (lenT ([] ++ leB 4 (intOf' (getD' undef (rels xs) (0 + (↑k : Int).toNat * 6))).toNat)) ([] ++ leB 4 (intOf' (getD' undef (rels xs) (0 + (↑k : Int).toNat * 6))).toNat)) ++ List.map (fun c => Value.int .u8 (↑c.toNat)) (List.take (lenT ([] ++ leB 4 (intOf' (getD' undef (rels xs) (0 + (↑k : Int).toNat * 6 + 1 + 1))).toNat)) ([] ++ leB 4 (intOf' (getD' undef (rels xs) (0 + (↑k : Int).toNat * 6 + 1 + 1))).toNat)) ++ List.map (fun c => Value.int .u8 (↑c.toNat)) (List.take (lenT ([] ++ leB 4 (intOf' (getD' undef (rels xs) (0 + (↑k : Int).toNat * 6 + 1 + 1 + 1))).toNat)) ([] ++ leB 4 (intOf' (getD' undef (rels xs) (0 + (↑k : Int).toNat * 6 + 1 + 1 + 1))).toNat)))).beq ((acc.length + lenT ([] ++ leB 4 (intOf' (getD' undef (rels xs) (0 + (↑k : Int).toNat * 6))).toNat) + lenT ([] ++ leB 4 (intOf' (getD' undef (rels xs) (0 + (↑k : Int).toNat * 6 + 1 + 1))).toNat) + lenT ([] ++ leB 4 (intOf' (getD' undef (rels xs) (0 + (↑k : Int).toNat * 6 + 1 + 1 + 1))).toNat)) * 1) then bif ((acc.length + lenT ([] ++ leB 4 (intOf' (getD' undef (rels xs) (0 + (↑k : Int).toNat * 6))).toNat) + lenT ([] ++ leB 4 (intOf' (getD' undef (rels xs) (0 + (↑k : Int).toNat * 6 + 1 + 1))).toNat) + lenT ([] ++ leB 4 (intOf' (getD' undef (rels xs) (0 + (↑k : Int).toNat * 6 + 1 + 1 + 1))).toNat) + 1) * 1).ble 1099511627776 && (acc.length + lenT ([] ++ leB 4 (intOf' (getD' undef (rels xs) (0 + (↑k : Int).toNat * 6))).toNat) + lenT ([] ++ leB 4 (intOf' (getD' undef (rels xs) (0 + (↑k : Int).toNat * 6 + 1 + 1))).toNat) + lenT ([] ++ leB 4 (intOf' (getD' undef (rels xs) (0 + (↑k : Int).toNat * 6 + 1 + 1 + 1))).toNat) + 1).blt 4611686018427387904 then ((bif (lenT (u8s acc ++ List.map (fun c => Value.int .u8 (↑c.toNat)) (List.take (lenT ([] ++ leB 4 (intOf' (getD' undef (rels xs) (0 + (↑k : Int).toNat * 6))).toNat)) ([] ++ leB 4 (intOf' (getD' undef (rels xs) (0 + (↑k : Int).toNat * 6))).toNat)) ++ List.map (fun c => Value.int .u8 (↑c.toNat)) (List.take (lenT ([] ++ leB 4 (intOf' (getD' undef (rels xs) (0 + (↑k : Int).toNat * 6 + 1 + 1))).toNat)) ([] ++ leB 4 (intOf' (getD' undef (rels xs) (0 + (↑k : Int).toNat * 6 + 1 + 1))).toNat)))).beq ((acc.length + lenT ([] ++ leB 4 (intOf' (getD' undef (rels xs) (0 + (↑k : Int).toNat * 6))).toNat) + lenT ([] ++ leB 4 (intOf' (getD' undef (rels xs) (0 + (↑k : Int).toNat * 6 + 1 + 1))).toNat)) * 1) then bif (lenT (List.map (fun c => Value.int .u8 (↑c.toNat)) (List.take (lenT ([] ++ leB 4 (intOf' (getD' undef (rels xs) (0 + (↑k : Int).toNat * 6 + 1 + 1 + 1))).toNat)) ([] ++ leB 4 (intOf' (getD' undef (rels xs) (0 + (↑k : Int).toNat * 6 + 1 + 1 + 1))).toNat)))).beq (lenT ([] ++ leB 4 (intOf' (getD' undef (rels xs) (0 + (↑k : Int).toNat * 6 + 1 + 1 + 1))).toNat) * 1) && oneC (List.map (fun c => Value.int .u8 (↑c.toNat)) (List.take (lenT ([] ++ leB 4 (intOf' (getD' undef (rels xs) (0 + (↑k : Int).toNat * 6 + 1 + 1 + 1))).toNat)) ([] ++ leB 4 (intOf' (getD' undef (rels xs) (0 + (↑k : Int).toNat * 6 + 1 + 1 + 1))).toNat))) && ((acc.length + lenT ([] ++ leB 4 (intOf' (getD' undef (rels xs) (0 + (↑k : Int).toNat * 6))).toNat) + lenT ([] ++ leB 4 (intOf' (getD' undef (rels xs) (0 + (↑k : Int).toNat * 6 + 1 + 1))).toNat) + lenT ([] ++ leB 4 (intOf' (getD' undef (rels xs) (0 + (↑k : Int).toNat * 6 + 1 + 1 + 1))).toNat)) * 1).ble 1099511627776 && (acc.length + lenT ([] ++ leB 4 (intOf' (getD' undef (rels xs) (0 + (↑k : Int).toNat * 6))).toNat) + lenT ([] ++ leB 4 (intOf' (getD' undef (rels xs) (0 + (↑k : Int).toNat * 6 + 1 + 1))).toNat) + lenT ([] ++ leB 4 (intOf' (getD' undef (rels xs) (0 + (↑k : Int).toNat * 6 + 1 + 1 + 1))).toNat)).blt 4611686018427387904 then (bif (lenT (u8s acc ++ List.map (fun c => Value.int .u8 (↑c.toNat)) (List.take (lenT ([] ++ leB 4 (intOf' (getD' undef (rels xs) (0 + (↑k : Int).toNat * 6))).toNat)) ([] ++ leB 4 (intOf' (getD' undef (rels xs) (0 + (↑k : Int).toNat * 6))).toNat)))).beq ((acc.length + lenT ([] ++ leB 4 (intOf' (getD' undef (rels xs) (0 + (↑k : Int).toNat * 6))).toNat)) * 1) then bif (lenT (List.map (fun c => Value.int .u8 (↑c.toNat)) (List.take (lenT ([] ++ leB 4 (intOf' (getD' undef (rels xs) (0 + (↑k : Int).toNat * 6 + 1 + 1))).toNat)) ([] ++ leB 4 (intOf' (getD' undef (rels xs) (0 + (↑k : Int).toNat * 6 + 1 + 1))).toNat)))).beq (lenT ([] ++ leB 4 (intOf' (getD' undef (rels xs) (0 + (↑k : Int).toNat * 6 + 1 + 1))).toNat) * 1) && oneC (List.map (fun c => Value.int .u8 (↑c.toNat)) (List.take (lenT ([] ++ leB 4 (intOf' (getD' undef (rels xs) (0 + (↑k : Int).toNat * 6 + 1 + 1))).toNat)) ([] ++ leB 4 (intOf' (getD' undef (rels xs) (0 + (↑k : Int).toNat * 6 + 1 + 1))).toNat))) && ((acc.length + lenT ([] ++ leB 4 (intOf' (getD' undef (rels xs) (0 + (↑k : Int).toNat * 6))).toNat) + lenT ([] ++ leB 4 (intOf' (getD' undef (rels xs) (0 + (↑k : Int).toNat * 6 + 1 + 1))).toNat)) * 1).ble 1099511627776 && (acc.length + lenT ([] ++ leB 4 (intOf' (getD' undef (rels xs) (0 + (↑k : Int).toNat * 6))).toNat) + lenT ([] ++ leB 4 (intOf' (getD' undef (rels xs) (0 + (↑k : Int).toNat * 6 + 1 + 1))).toNat)).blt 4611686018427387904 then (bif (lenT (u8s acc)).beq (acc.length * 1) then bif (lenT (List.map (fun c => Value.int .u8 (↑c.toNat)) (List.take (lenT ([] ++ leB 4 (intOf' (getD' undef (rels xs) (0 + (↑k : Int).toNat * 6))).toNat)) ([] ++ leB 4 (intOf' (getD' undef (rels xs) (0 + (↑k : Int).toNat * 6))).toNat)))).beq (lenT ([] ++ leB 4 (intOf' (getD' undef (rels xs) (0 + (↑k : Int).toNat * 6))).toNat) * 1) && oneC (List.map (fun c => Value.int .u8 (↑c.toNat)) (List.take (lenT ([] ++ leB 4 (intOf' (getD' undef (rels xs) (0 + (↑k : Int).toNat * 6))).toNat)) ([] ++ leB 4 (intOf' (getD' undef (rels xs) (0 + (↑k : Int).toNat * 6))).toNat))) && ((acc.length + lenT ([] ++ leB 4 (intOf' (getD' undef (rels xs) (0 + (↑k : Int).toNat * 6))).toNat)) * 1).ble 1099511627776 && (acc.length + lenT ([] ++ leB 4 (intOf' (getD' undef (rels xs) (0 + (↑k : Int).toNat * 6))).toNat)).blt 4611686018427387904 then (bif hasN (0 + (↑k : Int).toNat * 6 + 6) (rels xs) && isLikeL [Value.int .u32 0,.bool false,.int .u32 0,.int .u32 0,.int .u16 0,.int .u16 0] (rels xs) (0 + (↑k : Int).toNat * 6) then bif decide ((0 : Int) ≤ (↑k : Int)) && decide ((↑k : Int) < (↑xs.length : Int)) then True ∧ decide ((↑k : Int) < (↑xs.length : Int)) = true else False else False) ∧ (([] : List UInt8).length ≤ 1000000000 ∧ ((4 : Int) = (1 : Int) ∨ (4 : Int) = (2 : Int) ∨ (4 : Int) = (4 : Int)) ∧ (0 : Int) ≤ intOf' (getD' undef (rels xs) (0 + (↑k : Int).toNat * 6)) ∧ intOf' (getD' undef (rels xs) (0 + (↑k : Int).toNat * 6)) < (4294967296 : Int)) ∧ (Value.string { data:=#[] : ByteArray } = Value.string ⟨⟨[]⟩⟩ ∧ rr (Value.int .i64 4) ∧ rr (Value.int .u32 (intOf' (getD' undef (rels xs) (0 + (↑k : Int).toNat * 6)))) ∧ True) ∧ True ∧ True else False else False) ∧ (([] : List UInt8).length ≤ 1000000000 ∧ ((4 : Int) = (1 : Int) ∨ (4 : Int) = (2 : Int) ∨ (4 : Int) = (4 : Int)) ∧ (0 : Int) ≤ intOf' (getD' undef (rels xs) (0 + (↑k : Int).toNat * 6 + 1 + 1)) ∧ intOf' (getD' undef (rels xs) (0 + (↑k : Int).toNat * 6 + 1 + 1)) < (4294967296 : Int)) ∧ (Value.string { data:=#[] : ByteArray } = Value.string ⟨⟨[]⟩⟩ ∧ rr (Value.int .i64 4) ∧ rr (Value.int .u32 (intOf' (getD' undef (rels xs) (0 + (↑k : Int).toNat * 6 + 1 + 1)))) ∧ True) ∧ True ∧ True else False else False) ∧ (([] : List UInt8).length ≤ 1000000000 ∧ ((4 : Int) = (1 : Int) ∨ (4 : Int) = (2 : Int) ∨ (4 : Int) = (4 : Int)) ∧ (0 : Int) ≤ intOf' (getD' undef (rels xs) (0 + (↑k : Int).toNat * 6 + 1 + 1 + 1)) ∧ intOf' (getD' undef (rels xs) (0 + (↑k : Int).toNat * 6 + 1 + 1 + 1)) < (4294967296 : Int)) ∧ (Value.string { data:=#[] : ByteArray } = Value.string ⟨⟨[]⟩⟩ ∧ rr (Value.int .i64 4) ∧ rr (Value.int .u32 (intOf' (getD' undef (rels xs) (0 + (↑k : Int).toNat * 6 + 1 + 1 + 1)))) ∧ True) ∧ True ∧ True else False else False) ∧ boolOf' (getD' undef (rels xs) (0 + (↑k : Int).toNat * 6 + 1)) = true) ∧ (([] : List UInt8).length ≤ 1000000000 ∧ ((1 : Int) = (1 : Int) ∨ (1 : Int) = (2 : Int) ∨ (1 : Int) = (4 : Int)) ∧ (0 : Int) ≤ (1 : Int) ∧ (1 : Int) < (4294967296 : Int)) ∧ (Value.string { data:=#[] : ByteArray } = Value.string ⟨⟨[]⟩⟩ ∧ rr (Value.int .i64 1) ∧ rr (Value.int .u32 1) ∧ True) ∧ True ∧ True else False else False) ∧ (([] : List UInt8).length ≤ 1000000000 ∧ ((2 : Int) = (1 : Int) ∨ (2 : Int) = (2 : Int) ∨ (2 : Int) = (4 : Int)) ∧ (0 : Int) ≤ IntKind.u32.wrap (intOf' (getD' undef (rels xs) (0 + (↑k : Int).toNat * 6 + 1 + 1 + 1 + 1))) ∧ IntKind.u32.wrap (intOf' (getD' undef (rels xs) (0 + (↑k : Int).toNat * 6 + 1 + 1 + 1 + 1))) < (4294967296 : Int)) ∧ (Value.string { data:=#[] : ByteArray } = Value.string ⟨⟨[]⟩⟩ ∧ rr (Value.int .i64 2) ∧ rr (Value.int .u32 (IntKind.u32.wrap (intOf' (getD' undef (rels xs) (0 + (↑k : Int).toNat * 6 + 1 + 1 + 1 + 1))))) ∧ True) ∧ True ∧ True else False else False) ∧ (([] : List UInt8).length ≤ 1000000000 ∧ ((2 : Int) = (1 : Int) ∨ (2 : Int) = (2 : Int) ∨ (2 : Int) = (4 : Int)) ∧ (0 : Int) ≤ IntKind.u32.wrap (intOf' (getD' undef (rels xs) (0 + (↑k : Int).toNat * 6 + 1 + 1 + 1 + 1 + 1))) ∧ IntKind.u32.wrap (intOf' (getD' undef (rels xs) (0 + (↑k : Int).toNat * 6 + 1 + 1 + 1 + 1 + 1))) < (4294967296 : Int)) ∧ (Value.string { data:=#[] : ByteArray } = Value.string ⟨⟨[]⟩⟩ ∧ rr (Value.int .i64 2) ∧ rr (Value.int .u32 (IntKind.u32.wrap (intOf' (getD' undef (rels xs) (0 + (↑k : Int).toNat * 6 + 1 + 1 + 1 + 1 + 1))))) ∧ True) ∧ True ∧ True else False else False : St } : Fr }):=by kernel_rfl
theorem ea_end (xs : List Rl) (acc : List UInt8) (k : Nat) : evC Try.prog (evF Try.prog (baseC 3 selPut) noLoop 100 5) (noLoop 18) 99 100 (loopOf Try.prog 18 0) (Sf.frT 99 (eaI xs acc k) [(0,false)]) = some (Exit.exit 0,{ e:=[[unk,.pointer (some ⟨67,0,none⟩),unk,unk,unk,.pointer (some ⟨70,0,none⟩),.func (Fn.func 35) { toList:=[] } { toList:=[Value.pointer (some ⟨70,0,none⟩)] },unk,unk,unk,unk,unk,unk,unk,unk,unk],[unk,unk,unk,unk,unk,unk,unk,unk,unk,unk,unk,unk,unk,unk,unk,unk],[unk,unk,unk,unk,unk,unk,unk,unk,unk,unk,unk,unk,unk,unk,unk,unk],[unk,unk,unk,unk,unk,unk,unk,.slice (some ⟨65,0,none⟩) xs.length 9223372036854775873,.int .i64 (↑xs.length),.int .i64 (↑k),.bool (decide ((↑k : Int) < (↑xs.length : Int))),unk,unk,unk,unk,unk],[unk,unk,unk,unk,unk,unk,unk,unk,unk,unk,unk,unk,unk,unk,unk,unk],[unk,unk,unk,unk,unk,unk,unk,unk,unk,unk,unk,unk,unk,unk,unk,unk],[unk,unk,unk,unk,unk,unk,unk,unk,unk,unk,unk,unk,unk,unk,unk,unk]],s:={ n:=82,h:=[(65,⟨false,some (0,0),rels xs,none⟩),(70,⟨true,none,[Value.slice (some ⟨81,0,none⟩) acc.length 9223372036854775889],none⟩),(81,⟨true,some (81,1),u8s acc,none⟩)],lo:=[(81,acc.length)],esc:=0,T:=[],k:=1,O:=True ∧ decide ((↑k : Int) < (↑xs.length : Int)) = false : St } : Fr }):=by kernel_rfl
def eaσ (l : Nat) : Nat:=if l = 81 then 91 else l
def eaτ (l : Nat) : Nat:=if l = 82 then 81 else l
theorem eaT_ok (p : Nat → Bool) (g n : Nat) (h : p g = true) (hg : g = 81 ∨ g = 82) : ∀ v ∈ eaT g n,bnd p v = true:=fun v hv => by
 obtain rfl:=List.mem_singleton.1 hv
 rw [bnd_slice]
 simp only [rr, tt, bndA,h,Bool.and_true,Bool.true_and,Bool.or_eq_true]
 right
 rw [show big + g - big = g from Nat.add_sub_cancel_left _ _]; exact h
theorem ea_wf (xs : List Rl) (acc : List UInt8) (k : Nat) : (eaI xs acc k).Wf :=
 ⟨by show NG ≤ 82; decide,Sf.Ok.mk' 3 ⟨⟨rfl,rfl,flat_bnd (rels_flat xs)⟩,⟨rfl,rfl,eaT_ok _ 81 _ rfl (.inl rfl)⟩,⟨rfl,rfl,flat_bnd (u8s_flat acc)⟩,trivial⟩ rfl (fun x hx => by
  have : (eaI xs acc k).e.all (fun x => okV (fun l => Nat.blt l 82) 3 x.2) = true:=by kernel_rfl
  exact List.all_eq_true.1 this x hx)⟩
theorem eaN_ok (acc : List UInt8) (σ : Nat → Nat) (p : Nat → Bool) (h : keeps 82 83 σ p 67 = true) (h7 : keeps 82 83 σ p 70 = true) (h9 : keeps 82 83 σ p 82 = true) : (eaN acc).Ok (keeps 82 83 σ p) :=
 ⟨⟨⟨h7,rfl,eaT_ok _ 82 _ h9 (.inr rfl)⟩,⟨h9,h9,flat_bnd (u8s_flat acc)⟩,trivial⟩,by simp [eaN,h9],fun x hx => by
  simp only [rr, tt, eaN,List.mem_cons,List.not_mem_nil,or_false] at hx
  rcases hx with rfl | rfl | rfl
  ·rw [bnd_ptr]; simp only [rr, tt, bndA,h,Bool.and_self]
  ·rw [bnd_ptr]; simp only [rr, tt, bndA,h7,Bool.and_self]
  ·refine okV_bnd 3 _ ?_
   simp only [rr, tt, eaG,okV,okFn,bndA,h7,List.all_cons,List.all_nil,Bool.and_self]⟩
theorem ea_step_no (xs : List Rl) (acc : List UInt8) (fin : List UInt8) (k : Nat) (hk : k < xs.length) (hr : RlOk (rl0 xs k)) (hc : (rl0 xs k).code = false) (hm : xs.length ≤ 100000000) (ha : acc.length ≤ 100000000000) :
  ∃ g,evC Try.prog (evF Try.prog (baseC 3 selPut) noLoop 100 5) (noLoop 18) 99 100 (loopOf Try.prog 18 0) ((eaI xs acc k).frT 99 [(0,true),(5,false)]) = some (.normal,g) ∧ g.s.O ∧ Sf.Leads 3 (fun l => Nat.blt l 82) eaσ (eaI xs acc k) g (eaI xs (acc ++ rgB (rl0 xs k)) (k + 1)) (eaN fin):=by
 rcases hrr : rl0 xs k with ⟨at_,code,off,size,perms,typ⟩
 rw [hrr] at hr hc
 simp only at hc
 subst hc
 have f0 : intOf' (getD' undef (rels xs) (0 + k * 6)) = (at_ : Int):=by rw [Nat.zero_add]; have:=rels_0 hk; rw [hrr] at this; exact this
 have f1 : boolOf' (getD' undef (rels xs) (0 + k * 6 + 1)) = false:=by rw [Nat.zero_add]; have:=rels_1 hk; rw [hrr] at this; exact this
 have f2 : intOf' (getD' undef (rels xs) (0 + k * 6 + 1 + 1)) = (off : Int):=by rw [Nat.zero_add]; have:=rels_2 hk; rw [hrr] at this; exact this
 have f3 : intOf' (getD' undef (rels xs) (0 + k * 6 + 1 + 1 + 1)) = (size : Int):=by rw [Nat.zero_add]; have:=rels_3 hk; rw [hrr] at this; exact this
 have f4 : intOf' (getD' undef (rels xs) (0 + k * 6 + 1 + 1 + 1 + 1)) = (perms : Int):=by rw [Nat.zero_add]; have:=rels_4 hk; rw [hrr] at this; exact this
 have f5 : intOf' (getD' undef (rels xs) (0 + k * 6 + 1 + 1 + 1 + 1 + 1)) = (typ : Int):=by rw [Nat.zero_add]; have:=rels_5 hk; rw [hrr] at this; exact this
 have r0:=hr.at_
 have r2:=hr.off
 have r3:=hr.size
 have r4:=hr.perms
 have r5:=hr.typ
 simp only at r0 r2 r3 r4 r5
 have w4:=w32 perms (by omega)
 have w5:=w32 typ (by omega)
 have hB : rgB ⟨at_,false,off,size,perms,typ⟩ = leB 4 at_ ++ (leB 4 off ++ (leB 4 size ++ (leB 1 0 ++ (leB 2 perms ++ leB 2 typ)))):=rfl
 have v1 : Int.toNat (0 : Int) = 0:=rfl
 have v2 : Int.toNat (1 : Int) = 1:=rfl
 have v3 : Int.toNat (2 : Int) = 2:=rfl
 have v4 : Int.toNat (4 : Int) = 4:=rfl
 have t1 : ∀ n,List.map (fun (c : UInt8) => Value.int .u8 (c.toNat : Int)) (List.take 1 (leB 1 n)) = u8s (leB 1 n):=fun n => by have:=pu_take (leB 1 n); rw [lenT_eq,leB_len] at this; exact this
 have t2 : ∀ n,List.map (fun (c : UInt8) => Value.int .u8 (c.toNat : Int)) (List.take 2 (leB 2 n)) = u8s (leB 2 n):=fun n => by have:=pu_take (leB 2 n); rw [lenT_eq,leB_len] at this; exact this
 have t0 : [Value.int IntKind.u8 (0 : Int)] = u8s (leB 1 0):=by kernel_rfl
 have hh:=ea_no xs acc k
 simp only [rr, tt, Int.toNat_natCast,f0,f1,f2,f3,f4,f5,w4,w5,v1,v2,v3,v4,pu_take,u8s_app,List.nil_append,List.append_assoc,lenT_eq,leB_len,t1,t2,pu_cells] at hh
 simp only [rr, tt, t0,u8s_app,List.append_assoc,← hB,u8s_len,List.length_append,Nat.mul_one,Nat.add_assoc,Nat.reduceAdd,leB_len] at hh
 have e4 : acc.length + 17 = (acc ++ rgB ⟨at_,false,off,size,perms,typ⟩).length:=by rw [List.length_append,rgB_len]
 rw [e4] at hh
 refine ⟨_,hh,?_,?_⟩
 ·have g1 : hasN (0 + (k * 6 + 6)) (rels xs) = true:=by rw [rels_has]; simp; omega
  have g2 : isLikeL [Value.int IntKind.u32 (0 : Int),Value.bool false,Value.int IntKind.u32 (0 : Int),Value.int IntKind.u32 (0 : Int),Value.int IntKind.u16 (0 : Int),Value.int IntKind.u16 (0 : Int)] (rels xs) (0 + k * 6) = true:=by rw [Nat.zero_add]; exact rels_like hk ..
  have g14 : decide ((0 : Int) ≤ (k : Int)) = true:=by simp
  have g15 : decide ((k : Int) < (xs.length : Int)) = true:=by simp; omega
  have g16 : ∀ (b : List UInt8),oneC (u8s b) = true:=fun b => oneC_flat (u8s_flat b)
  have n0 : (0 : Int) ≤ (at_ : Int):=by omega
  have m0 : (at_ : Int) < 4294967296:=by omega
  have n2 : (0 : Int) ≤ (off : Int):=by omega
  have m2 : (off : Int) < 4294967296:=by omega
  have n3 : (0 : Int) ≤ (size : Int):=by omega
  have m3 : (size : Int) < 4294967296:=by omega
  have n4 : (0 : Int) ≤ (perms : Int):=by omega
  have m4 : (perms : Int) < 4294967296:=by omega
  have n5 : (0 : Int) ≤ (typ : Int):=by omega
  have m5 : (typ : Int) < 4294967296:=by omega
  simp (disch:=omega) only [rr, tt, List.length_append,List.length_cons,List.length_nil,leB_len,rgB_len,Nat.beq_refl,Nat.add_assoc,Nat.reduceAdd,ble_t,blt_t,beq_t,g1,g2,g14,g15,g16,n0,m0,n2,m2,n3,m3,n4,m4,n5,m5,Bool.and_self,cond_true,and_true,true_and,and_self,or_true,true_or,Nat.zero_le]
  exact ⟨by omega,by omega⟩
 ·refine ⟨fun l hl => ?_,⟨⟨rfl,flat_all (rels_flat xs),rfl,rfl,rfl,trivial,(flat_map (rels_flat xs)).symm⟩,⟨rfl,by kernel_rfl,rfl,rfl,rfl,trivial,by kernel_rfl⟩,⟨rfl,flat_all (u8s_flat _),rfl,rfl,rfl,trivial,(flat_map (u8s_flat _)).symm⟩,trivial⟩,rfl,⟨⟨rfl,Nat.le_refl _⟩,trivial⟩,⟨⟨by kernel_rfl,by kernel_rfl⟩,⟨by kernel_rfl,by kernel_rfl⟩,⟨by kernel_rfl,by kernel_rfl⟩,⟨by kernel_rfl,by kernel_rfl⟩,⟨by kernel_rfl,by kernel_rfl⟩,⟨rfl,?_⟩,trivial⟩,Nat.le_refl _,fun l hl => blt_no hl,eaN_ok fin eaσ _ rfl rfl rfl,?_⟩
  ·unfold eaσ; have : NG ≤ 66:=by decide
   rw [if_neg (by omega)]
  ·refine Eq.trans (b:=Value.int .i64 (IntKind.i64.wrap ((k : Int) + 1))) (by kernel_rfl) ?_
   rw [cast_succ_i64 k (by omega)]; rfl
  ·intro x hx hrw
   simp only [rr, tt, eaI,List.mem_cons,List.not_mem_nil,or_false] at hx
   rcases hx with rfl | rfl | rfl
   ·exact .inl rfl
   ·cases hrw
   ·cases hrw
theorem ea_step_yes (xs : List Rl) (acc : List UInt8) (fin : List UInt8) (k : Nat) (hk : k < xs.length) (hr : RlOk (rl0 xs k)) (hc : (rl0 xs k).code = true) (hm : xs.length ≤ 100000000) (ha : acc.length ≤ 100000000000) :
  ∃ g,evC Try.prog (evF Try.prog (baseC 3 selPut) noLoop 100 5) (noLoop 18) 99 100 (loopOf Try.prog 18 0) ((eaI xs acc k).frT 99 [(0,true),(5,true)]) = some (.normal,g) ∧ g.s.O ∧ Sf.Leads 3 (fun l => Nat.blt l 82) eaσ (eaI xs acc k) g (eaI xs (acc ++ rgB (rl0 xs k)) (k + 1)) (eaN fin):=by
 rcases hrr : rl0 xs k with ⟨at_,code,off,size,perms,typ⟩
 rw [hrr] at hr hc
 simp only at hc
 subst hc
 have f0 : intOf' (getD' undef (rels xs) (0 + k * 6)) = (at_ : Int):=by rw [Nat.zero_add]; have:=rels_0 hk; rw [hrr] at this; exact this
 have f1 : boolOf' (getD' undef (rels xs) (0 + k * 6 + 1)) = true:=by rw [Nat.zero_add]; have:=rels_1 hk; rw [hrr] at this; exact this
 have f2 : intOf' (getD' undef (rels xs) (0 + k * 6 + 1 + 1)) = (off : Int):=by rw [Nat.zero_add]; have:=rels_2 hk; rw [hrr] at this; exact this
 have f3 : intOf' (getD' undef (rels xs) (0 + k * 6 + 1 + 1 + 1)) = (size : Int):=by rw [Nat.zero_add]; have:=rels_3 hk; rw [hrr] at this; exact this
 have f4 : intOf' (getD' undef (rels xs) (0 + k * 6 + 1 + 1 + 1 + 1)) = (perms : Int):=by rw [Nat.zero_add]; have:=rels_4 hk; rw [hrr] at this; exact this
 have f5 : intOf' (getD' undef (rels xs) (0 + k * 6 + 1 + 1 + 1 + 1 + 1)) = (typ : Int):=by rw [Nat.zero_add]; have:=rels_5 hk; rw [hrr] at this; exact this
 have r0:=hr.at_
 have r2:=hr.off
 have r3:=hr.size
 have r4:=hr.perms
 have r5:=hr.typ
 simp only at r0 r2 r3 r4 r5
 have w4:=w32 perms (by omega)
 have w5:=w32 typ (by omega)
 have hB : rgB ⟨at_,true,off,size,perms,typ⟩ = leB 4 at_ ++ (leB 4 off ++ (leB 4 size ++ (leB 1 1 ++ (leB 2 perms ++ leB 2 typ)))):=rfl
 have v1 : Int.toNat (1 : Int) = 1:=rfl
 have v2 : Int.toNat (1 : Int) = 1:=rfl
 have v3 : Int.toNat (2 : Int) = 2:=rfl
 have v4 : Int.toNat (4 : Int) = 4:=rfl
 have t1 : ∀ n,List.map (fun (c : UInt8) => Value.int .u8 (c.toNat : Int)) (List.take 1 (leB 1 n)) = u8s (leB 1 n):=fun n => by have:=pu_take (leB 1 n); rw [lenT_eq,leB_len] at this; exact this
 have t2 : ∀ n,List.map (fun (c : UInt8) => Value.int .u8 (c.toNat : Int)) (List.take 2 (leB 2 n)) = u8s (leB 2 n):=fun n => by have:=pu_take (leB 2 n); rw [lenT_eq,leB_len] at this; exact this
 have t0 : [Value.int IntKind.u8 (1 : Int)] = u8s (leB 1 1):=by kernel_rfl
 have hh:=ea_yes xs acc k
 simp only [rr, tt, Int.toNat_natCast,f0,f1,f2,f3,f4,f5,w4,w5,v1,v2,v3,v4,pu_take,u8s_app,List.nil_append,List.append_assoc,lenT_eq,leB_len,t1,t2,pu_cells] at hh
 simp only [rr, tt, t0,u8s_app,List.append_assoc,← hB,u8s_len,List.length_append,Nat.mul_one,Nat.add_assoc,Nat.reduceAdd,leB_len] at hh
 have e4 : acc.length + 17 = (acc ++ rgB ⟨at_,true,off,size,perms,typ⟩).length:=by rw [List.length_append,rgB_len]
 rw [e4] at hh
 refine ⟨_,hh,?_,?_⟩
 ·have g1 : hasN (0 + (k * 6 + 6)) (rels xs) = true:=by rw [rels_has]; simp; omega
  have g2 : isLikeL [Value.int IntKind.u32 (0 : Int),Value.bool false,Value.int IntKind.u32 (0 : Int),Value.int IntKind.u32 (0 : Int),Value.int IntKind.u16 (0 : Int),Value.int IntKind.u16 (0 : Int)] (rels xs) (0 + k * 6) = true:=by rw [Nat.zero_add]; exact rels_like hk ..
  have g14 : decide ((0 : Int) ≤ (k : Int)) = true:=by simp
  have g15 : decide ((k : Int) < (xs.length : Int)) = true:=by simp; omega
  have g16 : ∀ (b : List UInt8),oneC (u8s b) = true:=fun b => oneC_flat (u8s_flat b)
  have n0 : (0 : Int) ≤ (at_ : Int):=by omega
  have m0 : (at_ : Int) < 4294967296:=by omega
  have n2 : (0 : Int) ≤ (off : Int):=by omega
  have m2 : (off : Int) < 4294967296:=by omega
  have n3 : (0 : Int) ≤ (size : Int):=by omega
  have m3 : (size : Int) < 4294967296:=by omega
  have n4 : (0 : Int) ≤ (perms : Int):=by omega
  have m4 : (perms : Int) < 4294967296:=by omega
  have n5 : (0 : Int) ≤ (typ : Int):=by omega
  have m5 : (typ : Int) < 4294967296:=by omega
  simp (disch:=omega) only [rr, tt, List.length_append,List.length_cons,List.length_nil,leB_len,rgB_len,Nat.beq_refl,Nat.add_assoc,Nat.reduceAdd,ble_t,blt_t,beq_t,g1,g2,g14,g15,g16,n0,m0,n2,m2,n3,m3,n4,m4,n5,m5,Bool.and_self,cond_true,and_true,true_and,and_self,or_true,true_or,Nat.zero_le]
  exact ⟨by omega,by omega⟩
 ·refine ⟨fun l hl => ?_,⟨⟨rfl,flat_all (rels_flat xs),rfl,rfl,rfl,trivial,(flat_map (rels_flat xs)).symm⟩,⟨rfl,by kernel_rfl,rfl,rfl,rfl,trivial,by kernel_rfl⟩,⟨rfl,flat_all (u8s_flat _),rfl,rfl,rfl,trivial,(flat_map (u8s_flat _)).symm⟩,trivial⟩,rfl,⟨⟨rfl,Nat.le_refl _⟩,trivial⟩,⟨⟨by kernel_rfl,by kernel_rfl⟩,⟨by kernel_rfl,by kernel_rfl⟩,⟨by kernel_rfl,by kernel_rfl⟩,⟨by kernel_rfl,by kernel_rfl⟩,⟨by kernel_rfl,by kernel_rfl⟩,⟨rfl,?_⟩,trivial⟩,Nat.le_refl _,fun l hl => blt_no hl,eaN_ok fin eaσ _ rfl rfl rfl,?_⟩
  ·unfold eaσ; have : NG ≤ 66:=by decide
   rw [if_neg (by omega)]
  ·refine Eq.trans (b:=Value.int .i64 (IntKind.i64.wrap ((k : Int) + 1))) (by kernel_rfl) ?_
   rw [cast_succ_i64 k (by omega)]; rfl
  ·intro x hx hrw
   simp only [rr, tt, eaI,List.mem_cons,List.not_mem_nil,or_false] at hx
   rcases hx with rfl | rfl | rfl
   ·exact .inl rfl
   ·cases hrw
   ·cases hrw
theorem ea_step_end (xs : List Rl) (acc : List UInt8) (k : Nat) (hk : k = xs.length) :
  ∃ g,evC Try.prog (evF Try.prog (baseC 3 selPut) noLoop 100 5) (noLoop 18) 99 100 (loopOf Try.prog 18 0) ((eaI xs acc k).frT 99 [(0,false)]) = some (.exit 0,g) ∧ g.s.O ∧ Sf.Leads 3 (fun l => Nat.blt l 83) eaτ (eaI xs acc k) g (eaN acc) (eaN acc):=by
 refine ⟨_,ea_end xs acc k,?_,?_⟩
 ·subst hk; simp
 ·refine ⟨fun l hl => ?_,⟨⟨rfl,by kernel_rfl,rfl,rfl,rfl,trivial,by kernel_rfl⟩,⟨rfl,flat_all (u8s_flat _),rfl,rfl,rfl,trivial,(flat_map (u8s_flat _)).symm⟩,trivial⟩,rfl,⟨⟨rfl,Nat.le_refl _⟩,trivial⟩,⟨⟨by kernel_rfl,by kernel_rfl⟩,⟨by kernel_rfl,by kernel_rfl⟩,⟨by kernel_rfl,by kernel_rfl⟩,trivial⟩,by show 82 ≤ 83; omega,fun l hl => blt_no hl,eaN_ok acc eaτ _ rfl rfl rfl,fun x hx hrw => ?_⟩
  ·unfold eaτ; have : NG ≤ 66:=by decide
   rw [if_neg (by omega)]
  ·simp only [rr, tt, eaN,List.mem_cons,List.not_mem_nil,or_false] at hx
   rcases hx with rfl | rfl <;> cases hrw
theorem ea_loop (xs : List Rl) (acc : List UInt8) (hm : xs.length ≤ 100000000) (hx : ∀ x ∈ xs,RlOk x) (ha : acc.length ≤ 1000000000) :
  ∀ x : { k : Nat // k ≤ xs.length },LoopOk Try.prog 99 (loopOf Try.prog 18 0) ((eaI xs (accR acc xs x.1) x.1).fr 99) (.exit 0) ((eaN (acc ++ xs.flatMap rgB)).fr 99):=by
 have hx' : ∀ i,i < xs.length → RlOk (rl0 xs i):=fun i hi => by
  unfold rl0
  rw [List.getD_eq_getElem?_getD,List.getElem?_eq_getElem hi]; exact hx _ (List.getElem_mem hi)
 refine loop_ok (L:=100) (run_ok (L:=100) i_names (baseC_ok selPut_ok) (noLoop_ok _) 5) (noLoop_any _ _ 18) (fun _ h => h) (X:={ k : Nat // k ≤ xs.length }) (fun x => eaI xs (accR acc xs x.1) x.1) (fun _ => eaN (acc ++ xs.flatMap rgB)) (fun _ => .exit 0) (fun x => xs.length - x.1) (fun x => ea_wf xs (accR acc xs x.1) x.1) ?_
 rintro ⟨k,hk⟩
 by_cases h : k < xs.length
 ·have hl:=accR_len acc xs k
  cases hc : (rl0 xs k).code
  ·obtain ⟨g,h1,h2,h3⟩:=ea_step_no xs (accR acc xs k) (acc ++ xs.flatMap rgB) k h (hx' k h) hc hm (by omega)
   rw [← accR_succ acc xs k h] at h3
   exact ⟨_,.normal,g,3,_,_,h1,h2,.inl ⟨rfl,⟨k + 1,by omega⟩,by show xs.length - (k + 1) < xs.length - k; omega,rfl,rfl,h3⟩⟩
  ·obtain ⟨g,h1,h2,h3⟩:=ea_step_yes xs (accR acc xs k) (acc ++ xs.flatMap rgB) k h (hx' k h) hc hm (by omega)
   rw [← accR_succ acc xs k h] at h3
   exact ⟨_,.normal,g,3,_,_,h1,h2,.inl ⟨rfl,⟨k + 1,by omega⟩,by show xs.length - (k + 1) < xs.length - k; omega,rfl,rfl,h3⟩⟩
 ·have he : k = xs.length:=by omega
  obtain ⟨g,h1,h2,h3⟩:=ea_step_end xs (accR acc xs k) k he
  subst he
  rw [accR_all] at h1 h3
  exact ⟨_,.exit 0,g,3,_,_,by rw [accR_all]; exact h1,h2,.inr ⟨by simp,rfl,by rw [accR_all]; exact h3⟩⟩
def eaEnt (xs : List Rl) (acc : List UInt8) (hm : xs.length ≤ 100000000) (hx : ∀ x ∈ xs,RlOk x) (ha : acc.length ≤ 1000000000) : Ent Try.prog :=
 entC Try.prog 18 0 99 (eaI xs acc 0) (.exit 0) (eaN (acc ++ xs.flatMap rgB)) (by kernel_rfl) (by kernel_rfl) (by
  have:=ea_loop xs acc hm hx ha ⟨0,Nat.zero_le _⟩
  have e : accR acc xs 0 = acc:=by unfold accR; simp
  simp only [rr, tt, e] at this
  exact this)
end Go.Proofs.Ytdljpnebpoaeiaa
namespace Go.Proofs.Ytdljpnebpoaeiaa
open Go.RowKit
open Sy
def boxL (s : St) (j : Nat) : Nat:=match Sy.look s.h j with
 | some k => (match k.cells with | [.slice (some g) _ _] => g.block | _ => 0)
 | none => 0
def selPv (co so : List Nat) (a0 a2 : List UInt8) : SelC:=fun f args s =>
 match args with
 | [.int .i64 4,.slice (some i) _ _,.pointer (some j)] =>
  bif Nat.beq f 35 then (bif Nat.beq i.block 64 then some (pvC co a0,[64,j.block,boxL s j.block],pvOk co a0) else bif Nat.beq i.block 66 then some (pvC so a2,[66,j.block,boxL s j.block],pvOk so a2) else none) else none
 | _ => none
theorem selPv_ok (co so : List Nat) (a0 a2 : List UInt8) : ∀ f args s c ρ q,selPv co so a0 a2 f args s = some (c,ρ,q) → (q → ConOk Try.prog f 3 c) ∧ FlatC c:=by
 intro f args s c ρ q h
 unfold selPv at h
 split at h
 ·obtain ⟨h2,h3⟩:=bif_some h
  clear h
  have h2:=Nat.eq_of_beq_eq_true h2
  subst h2
  rename_i i _ _ j
  cases h1 : Nat.beq i.block 64 <;> rw [h1] at h3
  ·simp only [rr, tt, cond_false] at h3
   obtain ⟨_,h4⟩:=bif_some h3
   cases h4
   exact ⟨fun hq => pv_con so a2 hq,pv_flat so a2⟩
  ·cases h3
   exact ⟨fun hq => pv_con co a0 hq,pv_flat co a0⟩
 ·cases h
def baseE (co : List Nat) (ro : List Rl) (so : List Nat) (a0 a2 : List UInt8) : CallK:=baseF 3 (selPv co so a0 a2) (baseR 3 (selLayAt ro so) (baseC 3 selPut))
theorem baseE_ok (co : List Nat) (ro : List Rl) (so : List Nat) (a0 a2 : List UInt8) : SoundCall Try.prog (baseE co ro so a0 a2) :=
 baseF_ok (selPv_ok co so a0 a2) (baseR_ok (selLayAt_ok ro so) (baseC_ok (d:=3) selPut_ok))
theorem eb_a (p s t : Int) (co : List Nat) (ro : List Rl) (so : List Nat) (d a0 a1 a2 : List UInt8) (h4 : ro.length ≤ 100000000) (h5 : ∀ (x : Rl),x ∈ ro → RlOk x) (h6 : a1.length ≤ 1000000000) : evF Try.prog (baseE co ro so a0 a2) (lpEsc [eaEnt ro a1 h4 h5 h6]) 100 10 18 [imgV p s t co.length ro.length so.length d] ⟨67,eyH co ro so,[],0,[(0,false),(2,false)],0,True⟩ = some (Value.tuple { toList:=[Value.string ⟨⟨List.map toU8 (List.take (a2++List.flatMap (leB 4) so).length (List.drop 0 (u8s (a2++List.flatMap (leB 4) so))))⟩⟩,.int .i64 0] },{ n:=86,h:=[(70,⟨true,none,[Value.slice (some ⟨85,0,none⟩) (a2++List.flatMap (leB 4) so).length 9223372036854775893],none⟩),(85,⟨true,some (85,1),u8s (a2++List.flatMap (leB 4) so),none⟩),(83,⟨true,none,[Value.int .u32 (IntKind.u32.wrap (↑so.length))],none⟩),(80,⟨true,none,[Value.int .u32 (IntKind.u32.wrap (↑ro.length))],none⟩),(77,⟨true,none,[Value.int .u32 (IntKind.u32.wrap (↑(lenT d)))],none⟩),(71,⟨true,none,[Value.int .u32 (IntKind.u32.wrap p),.int .u32 (IntKind.u32.wrap s),.int .u32 (IntKind.u32.wrap t),.int .u32 (IntKind.u32.wrap (↑co.length))],none⟩),(67,⟨true,none,[Value.int .i64 p,.int .i64 s,.int .i64 t,.slice (some ⟨64,0,none⟩) co.length 9223372036854775872,.string ⟨⟨d⟩⟩,.slice (some ⟨65,0,none⟩) ro.length 9223372036854775873,.slice (some ⟨66,0,none⟩) so.length 9223372036854775874],none⟩),(64,⟨false,some (0,0),u32s co,none⟩),(65,⟨false,some (0,0),rels ro,none⟩),(66,⟨false,some (0,0),u32s so,none⟩)],lo:=[(85,(a2++List.flatMap (leB 4) so).length),(84,(a1++List.flatMap rgB ro).length+lenT ([]++leB 4 (IntKind.u32.wrap (↑so.length)).toNat)),(82,(a1++List.flatMap rgB ro).length),(81,(a0++List.flatMap (leB 4) co).length+lenT ([]++leB 4 (IntKind.u32.wrap (↑(lenT d))).toNat)+lenT d+lenT ([]++leB 4 (IntKind.u32.wrap (↑ro.length)).toNat)),(79,(a0++List.flatMap (leB 4) co).length+lenT ([]++leB 4 (IntKind.u32.wrap (↑(lenT d))).toNat)+lenT d),(78,(a0++List.flatMap (leB 4) co).length+lenT ([]++leB 4 (IntKind.u32.wrap (↑(lenT d))).toNat)),(76,(a0++List.flatMap (leB 4) co).length),(75,0+lenT ([]++leB 4 (IntKind.u32.wrap p).toNat)+lenT ([]++leB 4 (IntKind.u32.wrap s).toNat)+lenT ([]++leB 4 (IntKind.u32.wrap t).toNat)+lenT ([]++leB 4 (IntKind.u32.wrap (↑co.length)).toNat)),(74,0+lenT ([]++leB 4 (IntKind.u32.wrap p).toNat)+lenT ([]++leB 4 (IntKind.u32.wrap s).toNat)+lenT ([]++leB 4 (IntKind.u32.wrap t).toNat)),(73,0+lenT ([]++leB 4 (IntKind.u32.wrap p).toNat)+lenT ([]++leB 4 (IntKind.u32.wrap s).toNat)),(72,0+lenT ([]++leB 4 (IntKind.u32.wrap p).toNat))],esc:=0,T:=[],k:=3,O:=bif (List.take (a2++List.flatMap (leB 4) so).length (List.drop 0 (u8s (a2++List.flatMap (leB 4) so)))).all isU8 then bif hasN (0+(a2++List.flatMap (leB 4) so).length) (u8s (a2++List.flatMap (leB 4) so)) then (bif (lenT (u8s (a1++List.flatMap rgB ro))).beq ((a1++List.flatMap rgB ro).length * 1) then bif (lenT (List.map (fun c => Value.int .u8 (↑c.toNat)) (List.take (lenT ([]++leB 4 (IntKind.u32.wrap (↑so.length)).toNat)) ([]++leB 4 (IntKind.u32.wrap (↑so.length)).toNat)))).beq (lenT ([]++leB 4 (IntKind.u32.wrap (↑so.length)).toNat) * 1) && oneC (List.map (fun c => Value.int .u8 (↑c.toNat)) (List.take (lenT ([]++leB 4 (IntKind.u32.wrap (↑so.length)).toNat)) ([]++leB 4 (IntKind.u32.wrap (↑so.length)).toNat))) && (((a1++List.flatMap rgB ro).length+lenT ([]++leB 4 (IntKind.u32.wrap (↑so.length)).toNat)) * 1).ble 1099511627776 && ((a1++List.flatMap rgB ro).length+lenT ([]++leB 4 (IntKind.u32.wrap (↑so.length)).toNat)).blt 4611686018427387904 then ((bif (lenT (u8s (a0++List.flatMap (leB 4) co)++List.map (fun c => Value.int .u8 (↑c.toNat)) (List.take (lenT ([]++leB 4 (IntKind.u32.wrap (↑(lenT d))).toNat)) ([]++leB 4 (IntKind.u32.wrap (↑(lenT d))).toNat))++List.map (fun c => Value.int .u8 (↑c.toNat)) (List.take (lenT d) d))).beq (((a0++List.flatMap (leB 4) co).length+lenT ([]++leB 4 (IntKind.u32.wrap (↑(lenT d))).toNat)+lenT d) * 1) then bif (lenT (List.map (fun c => Value.int .u8 (↑c.toNat)) (List.take (lenT ([]++leB 4 (IntKind.u32.wrap (↑ro.length)).toNat)) ([]++leB 4 (IntKind.u32.wrap (↑ro.length)).toNat)))).beq (lenT ([]++leB 4 (IntKind.u32.wrap (↑ro.length)).toNat) * 1) && oneC (List.map (fun c => Value.int .u8 (↑c.toNat)) (List.take (lenT ([]++leB 4 (IntKind.u32.wrap (↑ro.length)).toNat)) ([]++leB 4 (IntKind.u32.wrap (↑ro.length)).toNat))) && (((a0++List.flatMap (leB 4) co).length+lenT ([]++leB 4 (IntKind.u32.wrap (↑(lenT d))).toNat)+lenT d+lenT ([]++leB 4 (IntKind.u32.wrap (↑ro.length)).toNat)) * 1).ble 1099511627776 && ((a0++List.flatMap (leB 4) co).length+lenT ([]++leB 4 (IntKind.u32.wrap (↑(lenT d))).toNat)+lenT d+lenT ([]++leB 4 (IntKind.u32.wrap (↑ro.length)).toNat)).blt 4611686018427387904 then (bif (lenT (u8s (a0++List.flatMap (leB 4) co)++List.map (fun c => Value.int .u8 (↑c.toNat)) (List.take (lenT ([]++leB 4 (IntKind.u32.wrap (↑(lenT d))).toNat)) ([]++leB 4 (IntKind.u32.wrap (↑(lenT d))).toNat)))).beq (((a0++List.flatMap (leB 4) co).length+lenT ([]++leB 4 (IntKind.u32.wrap (↑(lenT d))).toNat)) * 1) then bif (lenT (List.map (fun c => Value.int .u8 (↑c.toNat)) (List.take (lenT d) d))).beq (lenT d * 1) && oneC (List.map (fun c => Value.int .u8 (↑c.toNat)) (List.take (lenT d) d)) && (((a0++List.flatMap (leB 4) co).length+lenT ([]++leB 4 (IntKind.u32.wrap (↑(lenT d))).toNat)+lenT d) * 1).ble 1099511627776 && ((a0++List.flatMap (leB 4) co).length+lenT ([]++leB 4 (IntKind.u32.wrap (↑(lenT d))).toNat)+lenT d).blt 4611686018427387904 then bif (lenT (u8s (a0++List.flatMap (leB 4) co))).beq ((a0++List.flatMap (leB 4) co).length * 1) then bif (lenT (List.map (fun c => Value.int .u8 (↑c.toNat)) (List.take (lenT ([]++leB 4 (IntKind.u32.wrap (↑(lenT d))).toNat)) ([]++leB 4 (IntKind.u32.wrap (↑(lenT d))).toNat)))).beq (lenT ([]++leB 4 (IntKind.u32.wrap (↑(lenT d))).toNat) * 1) && oneC (List.map (fun c => Value.int .u8 (↑c.toNat)) (List.take (lenT ([]++leB 4 (IntKind.u32.wrap (↑(lenT d))).toNat)) ([]++leB 4 (IntKind.u32.wrap (↑(lenT d))).toNat))) && (((a0++List.flatMap (leB 4) co).length+lenT ([]++leB 4 (IntKind.u32.wrap (↑(lenT d))).toNat)) * 1).ble 1099511627776 && ((a0++List.flatMap (leB 4) co).length+lenT ([]++leB 4 (IntKind.u32.wrap (↑(lenT d))).toNat)).blt 4611686018427387904 then ((bif (lenT ([]++List.map (fun c => Value.int .u8 (↑c.toNat)) (List.take (lenT ([]++leB 4 (IntKind.u32.wrap p).toNat)) ([]++leB 4 (IntKind.u32.wrap p).toNat))++List.map (fun c => Value.int .u8 (↑c.toNat)) (List.take (lenT ([]++leB 4 (IntKind.u32.wrap s).toNat)) ([]++leB 4 (IntKind.u32.wrap s).toNat))++List.map (fun c => Value.int .u8 (↑c.toNat)) (List.take (lenT ([]++leB 4 (IntKind.u32.wrap t).toNat)) ([]++leB 4 (IntKind.u32.wrap t).toNat)))).beq ((0+lenT ([]++leB 4 (IntKind.u32.wrap p).toNat)+lenT ([]++leB 4 (IntKind.u32.wrap s).toNat)+lenT ([]++leB 4 (IntKind.u32.wrap t).toNat)) * 1) then bif (lenT (List.map (fun c => Value.int .u8 (↑c.toNat)) (List.take (lenT ([]++leB 4 (IntKind.u32.wrap (↑co.length)).toNat)) ([]++leB 4 (IntKind.u32.wrap (↑co.length)).toNat)))).beq (lenT ([]++leB 4 (IntKind.u32.wrap (↑co.length)).toNat) * 1) && oneC (List.map (fun c => Value.int .u8 (↑c.toNat)) (List.take (lenT ([]++leB 4 (IntKind.u32.wrap (↑co.length)).toNat)) ([]++leB 4 (IntKind.u32.wrap (↑co.length)).toNat))) && ((0+lenT ([]++leB 4 (IntKind.u32.wrap p).toNat)+lenT ([]++leB 4 (IntKind.u32.wrap s).toNat)+lenT ([]++leB 4 (IntKind.u32.wrap t).toNat)+lenT ([]++leB 4 (IntKind.u32.wrap (↑co.length)).toNat)) * 1).ble 1099511627776 && (0+lenT ([]++leB 4 (IntKind.u32.wrap p).toNat)+lenT ([]++leB 4 (IntKind.u32.wrap s).toNat)+lenT ([]++leB 4 (IntKind.u32.wrap t).toNat)+lenT ([]++leB 4 (IntKind.u32.wrap (↑co.length)).toNat)).blt 4611686018427387904 then (bif (lenT ([]++List.map (fun c => Value.int .u8 (↑c.toNat)) (List.take (lenT ([]++leB 4 (IntKind.u32.wrap p).toNat)) ([]++leB 4 (IntKind.u32.wrap p).toNat))++List.map (fun c => Value.int .u8 (↑c.toNat)) (List.take (lenT ([]++leB 4 (IntKind.u32.wrap s).toNat)) ([]++leB 4 (IntKind.u32.wrap s).toNat)))).beq ((0+lenT ([]++leB 4 (IntKind.u32.wrap p).toNat)+lenT ([]++leB 4 (IntKind.u32.wrap s).toNat)) * 1) then bif (lenT (List.map (fun c => Value.int .u8 (↑c.toNat)) (List.take (lenT ([]++leB 4 (IntKind.u32.wrap t).toNat)) ([]++leB 4 (IntKind.u32.wrap t).toNat)))).beq (lenT ([]++leB 4 (IntKind.u32.wrap t).toNat) * 1) && oneC (List.map (fun c => Value.int .u8 (↑c.toNat)) (List.take (lenT ([]++leB 4 (IntKind.u32.wrap t).toNat)) ([]++leB 4 (IntKind.u32.wrap t).toNat))) && ((0+lenT ([]++leB 4 (IntKind.u32.wrap p).toNat)+lenT ([]++leB 4 (IntKind.u32.wrap s).toNat)+lenT ([]++leB 4 (IntKind.u32.wrap t).toNat)) * 1).ble 1099511627776 && (0+lenT ([]++leB 4 (IntKind.u32.wrap p).toNat)+lenT ([]++leB 4 (IntKind.u32.wrap s).toNat)+lenT ([]++leB 4 (IntKind.u32.wrap t).toNat)).blt 4611686018427387904 then (bif (lenT ([]++List.map (fun c => Value.int .u8 (↑c.toNat)) (List.take (lenT ([]++leB 4 (IntKind.u32.wrap p).toNat)) ([]++leB 4 (IntKind.u32.wrap p).toNat)))).beq ((0+lenT ([]++leB 4 (IntKind.u32.wrap p).toNat)) * 1) then bif (lenT (List.map (fun c => Value.int .u8 (↑c.toNat)) (List.take (lenT ([]++leB 4 (IntKind.u32.wrap s).toNat)) ([]++leB 4 (IntKind.u32.wrap s).toNat)))).beq (lenT ([]++leB 4 (IntKind.u32.wrap s).toNat) * 1) && oneC (List.map (fun c => Value.int .u8 (↑c.toNat)) (List.take (lenT ([]++leB 4 (IntKind.u32.wrap s).toNat)) ([]++leB 4 (IntKind.u32.wrap s).toNat))) && ((0+lenT ([]++leB 4 (IntKind.u32.wrap p).toNat)+lenT ([]++leB 4 (IntKind.u32.wrap s).toNat)) * 1).ble 1099511627776 && (0+lenT ([]++leB 4 (IntKind.u32.wrap p).toNat)+lenT ([]++leB 4 (IntKind.u32.wrap s).toNat)).blt 4611686018427387904 then ((bif (lenT (List.map (fun c => Value.int .u8 (↑c.toNat)) (List.take (lenT ([]++leB 4 (IntKind.u32.wrap p).toNat)) ([]++leB 4 (IntKind.u32.wrap p).toNat)))).beq (lenT ([]++leB 4 (IntKind.u32.wrap p).toNat) * 1) && oneC (List.map (fun c => Value.int .u8 (↑c.toNat)) (List.take (lenT ([]++leB 4 (IntKind.u32.wrap p).toNat)) ([]++leB 4 (IntKind.u32.wrap p).toNat))) && ((0+lenT ([]++leB 4 (IntKind.u32.wrap p).toNat)) * 1).ble 1099511627776 && (0+lenT ([]++leB 4 (IntKind.u32.wrap p).toNat)).blt 4611686018427387904 then ((True∧ImOk ro so∧(rr (Value.agg ⟨[.int .i64 p,.int .i64 s,.int .i64 t,.slice (some ⟨64,0,none⟩) co.length 9223372036854775872,.string ⟨⟨d⟩⟩,.slice (some ⟨65,0,none⟩) ro.length 9223372036854775873,.slice (some ⟨66,0,none⟩) so.length 9223372036854775874]⟩)∧True)∧(((tt∧(rels ro).all (okV (fun l => l.blt 67) 3) = true∧tt∧tt∧tt∧True∧rels ro = List.map (rnV (lift 67 69 [64,65,66]) 3) (rels ro))∧(tt∧(u32s so).all (okV (fun l => l.blt 67) 3) = true∧tt∧tt∧tt∧True∧u32s so = List.map (rnV (lift 67 69 [64,65,66]) 3) (u32s so))∧True)∧tt∧tt)∧True)∧((↑(errOf p s t co.length d ro so):Int) != (0:Int)) = false)∧(([] : List UInt8).length ≤ 1000000000∧((4:Int) = (1:Int) ∨ (4:Int) = (2:Int) ∨ (4:Int) = (4:Int))∧(0:Int) ≤ IntKind.u32.wrap p∧IntKind.u32.wrap p < (4294967296:Int))∧(Value.string { data:=#[] : ByteArray } = Value.string ⟨⟨[]⟩⟩∧rr (Value.int .i64 4)∧rr (Value.int .u32 (IntKind.u32.wrap p))∧True)∧True∧True else False)∧(0+lenT ([]++leB 4 (IntKind.u32.wrap p).toNat)).ble 0 = false)∧(([] : List UInt8).length ≤ 1000000000∧((4:Int) = (1:Int) ∨ (4:Int) = (2:Int) ∨ (4:Int) = (4:Int))∧(0:Int) ≤ IntKind.u32.wrap s∧IntKind.u32.wrap s < (4294967296:Int))∧(Value.string { data:=#[] : ByteArray } = Value.string ⟨⟨[]⟩⟩∧rr (Value.int .i64 4)∧rr (Value.int .u32 (IntKind.u32.wrap s))∧True)∧True∧True else False else False)∧(([] : List UInt8).length ≤ 1000000000∧((4:Int) = (1:Int) ∨ (4:Int) = (2:Int) ∨ (4:Int) = (4:Int))∧(0:Int) ≤ IntKind.u32.wrap t∧IntKind.u32.wrap t < (4294967296:Int))∧(Value.string { data:=#[] : ByteArray } = Value.string ⟨⟨[]⟩⟩∧rr (Value.int .i64 4)∧rr (Value.int .u32 (IntKind.u32.wrap t))∧True)∧True∧True else False else False)∧(([] : List UInt8).length ≤ 1000000000∧((4:Int) = (1:Int) ∨ (4:Int) = (2:Int) ∨ (4:Int) = (4:Int))∧(0:Int) ≤ IntKind.u32.wrap (↑co.length)∧IntKind.u32.wrap (↑co.length) < (4294967296:Int))∧(Value.string { data:=#[] : ByteArray } = Value.string ⟨⟨[]⟩⟩∧rr (Value.int .i64 4)∧rr (Value.int .u32 (IntKind.u32.wrap (↑co.length)))∧True)∧True∧True else False else False)∧pvOk co a0∧(rr (Value.int .i64 4)∧rr (Value.slice (some ⟨64,0,none⟩) co.length 9223372036854775872)∧rr (Value.pointer (some ⟨70,0,none⟩))∧True)∧((tt∧(u32s co).all (okV (fun l => l.blt 67) 3) = true∧tt∧tt∧tt∧True∧u32s co = List.map (rnV (lift 67 76 [64,70,75]) 3) (u32s co))∧(tt∧tt∧tt∧tt∧tt∧True∧[Value.slice (some ⟨75,0,none⟩) (0+lenT ([]++leB 4 (IntKind.u32.wrap p).toNat)+lenT ([]++leB 4 (IntKind.u32.wrap s).toNat)+lenT ([]++leB 4 (IntKind.u32.wrap t).toNat)+lenT ([]++leB 4 (IntKind.u32.wrap (↑co.length)).toNat)) 9223372036854775883] = [Value.slice (some ⟨75,0,none⟩) a0.length 9223372036854775883])∧(tt∧(u8s a0).all (okV (fun l => l.blt 67) 3) = true∧tt∧tt∧tt∧True∧[]++List.map (fun c => Value.int .u8 (↑c.toNat)) (List.take (lenT ([]++leB 4 (IntKind.u32.wrap p).toNat)) ([]++leB 4 (IntKind.u32.wrap p).toNat))++List.map (fun c => Value.int .u8 (↑c.toNat)) (List.take (lenT ([]++leB 4 (IntKind.u32.wrap s).toNat)) ([]++leB 4 (IntKind.u32.wrap s).toNat))++List.map (fun c => Value.int .u8 (↑c.toNat)) (List.take (lenT ([]++leB 4 (IntKind.u32.wrap t).toNat)) ([]++leB 4 (IntKind.u32.wrap t).toNat))++List.map (fun c => Value.int .u8 (↑c.toNat)) (List.take (lenT ([]++leB 4 (IntKind.u32.wrap (↑co.length)).toNat)) ([]++leB 4 (IntKind.u32.wrap (↑co.length)).toNat)) = List.map (rnV (lift 67 76 [64,70,75]) 3) (u8s a0))∧True)∧(tt∧a0.length ≤ 0+lenT ([]++leB 4 (IntKind.u32.wrap p).toNat)+lenT ([]++leB 4 (IntKind.u32.wrap s).toNat)+lenT ([]++leB 4 (IntKind.u32.wrap t).toNat)+lenT ([]++leB 4 (IntKind.u32.wrap (↑co.length)).toNat))∧True)∧(([] : List UInt8).length ≤ 1000000000∧((4:Int) = (1:Int) ∨ (4:Int) = (2:Int) ∨ (4:Int) = (4:Int))∧(0:Int) ≤ IntKind.u32.wrap (↑(lenT d))∧IntKind.u32.wrap (↑(lenT d)) < (4294967296:Int))∧(Value.string { data:=#[] : ByteArray } = Value.string ⟨⟨[]⟩⟩∧rr (Value.int .i64 4)∧rr (Value.int .u32 (IntKind.u32.wrap (↑(lenT d))))∧True)∧True∧True else False else False else False else False)∧(([] : List UInt8).length ≤ 1000000000∧((4:Int) = (1:Int) ∨ (4:Int) = (2:Int) ∨ (4:Int) = (4:Int))∧(0:Int) ≤ IntKind.u32.wrap (↑ro.length)∧IntKind.u32.wrap (↑ro.length) < (4294967296:Int))∧(Value.string { data:=#[] : ByteArray } = Value.string ⟨⟨[]⟩⟩∧rr (Value.int .i64 4)∧rr (Value.int .u32 (IntKind.u32.wrap (↑ro.length)))∧True)∧True∧True else False else False)∧(rr (Value.pointer (some ⟨67,0,none⟩))∧rr (Value.pointer (some ⟨70,0,none⟩))∧rr (Value.func (Fn.func 35) { toList:=[] } { toList:=[Value.pointer (some ⟨70,0,none⟩)] })∧rr (Value.slice (some ⟨65,0,none⟩) ro.length 9223372036854775873)∧rr (Value.int .i64 (↑ro.length))∧rr (Value.int .i64 0)∧True)∧((tt∧tt∧True∧rr (rels ro))∧(tt∧tt∧True∧[Value.slice (some ⟨81,0,none⟩) a1.length 9223372036854775889] = [Value.slice (some ⟨81,0,none⟩) ((a0++List.flatMap (leB 4) co).length+lenT ([]++leB 4 (IntKind.u32.wrap (↑(lenT d))).toNat)+lenT d+lenT ([]++leB 4 (IntKind.u32.wrap (↑ro.length)).toNat)) 9223372036854775889])∧(tt∧tt∧True∧u8s a1 = u8s (a0++List.flatMap (leB 4) co)++List.map (fun c => Value.int .u8 (↑c.toNat)) (List.take (lenT ([]++leB 4 (IntKind.u32.wrap (↑(lenT d))).toNat)) ([]++leB 4 (IntKind.u32.wrap (↑(lenT d))).toNat))++List.map (fun c => Value.int .u8 (↑c.toNat)) (List.take (lenT d) d)++List.map (fun c => Value.int .u8 (↑c.toNat)) (List.take (lenT ([]++leB 4 (IntKind.u32.wrap (↑ro.length)).toNat)) ([]++leB 4 (IntKind.u32.wrap (↑ro.length)).toNat)))∧True)∧(a1.length ≤ (a0++List.flatMap (leB 4) co).length+lenT ([]++leB 4 (IntKind.u32.wrap (↑(lenT d))).toNat)+lenT d+lenT ([]++leB 4 (IntKind.u32.wrap (↑ro.length)).toNat)∧True)∧True)∧(([] : List UInt8).length ≤ 1000000000∧((4:Int) = (1:Int) ∨ (4:Int) = (2:Int) ∨ (4:Int) = (4:Int))∧(0:Int) ≤ IntKind.u32.wrap (↑so.length)∧IntKind.u32.wrap (↑so.length) < (4294967296:Int))∧(Value.string { data:=#[] : ByteArray } = Value.string ⟨⟨[]⟩⟩∧rr (Value.int .i64 4)∧rr (Value.int .u32 (IntKind.u32.wrap (↑so.length)))∧True)∧True∧True else False else False)∧pvOk so a2∧(rr (Value.int .i64 4)∧rr (Value.slice (some ⟨66,0,none⟩) so.length 9223372036854775874)∧rr (Value.pointer (some ⟨70,0,none⟩))∧True)∧((tt∧(u32s so).all (okV (fun l => l.blt 67) 3) = true∧tt∧tt∧tt∧True∧u32s so = List.map (rnV (lift 67 85 [66,70,84]) 3) (u32s so))∧(tt∧tt∧tt∧tt∧tt∧True∧[Value.slice (some ⟨84,0,none⟩) ((a1++List.flatMap rgB ro).length+lenT ([]++leB 4 (IntKind.u32.wrap (↑so.length)).toNat)) 9223372036854775892] = [Value.slice (some ⟨84,0,none⟩) a2.length 9223372036854775892])∧(tt∧(u8s a2).all (okV (fun l => l.blt 67) 3) = true∧tt∧tt∧tt∧True∧u8s (a1++List.flatMap rgB ro)++List.map (fun c => Value.int .u8 (↑c.toNat)) (List.take (lenT ([]++leB 4 (IntKind.u32.wrap (↑so.length)).toNat)) ([]++leB 4 (IntKind.u32.wrap (↑so.length)).toNat)) = List.map (rnV (lift 67 85 [66,70,84]) 3) (u8s a2))∧True)∧(tt∧a2.length ≤ (a1++List.flatMap rgB ro).length+lenT ([]++leB 4 (IntKind.u32.wrap (↑so.length)).toNat))∧True else False else False : St }):=by kernel_rfl
theorem eb_e (p s t : Int) (co : List Nat) (ro : List Rl) (so : List Nat) (d : List UInt8) : evF Try.prog (baseR 3 (selLayAt ro so) (baseC 3 selPut)) noLoop 100 10 18 [imgV p s t co.length ro.length so.length d] ⟨67,eyH co ro so,[],0,[(0,true)],0,True⟩ = some (Value.tuple { toList:=[Value.string { data:=#[] : ByteArray },.int .i64 (↑(errOf p s t co.length d ro so))] },{ n:=70,h:=[(64,⟨false,some (0,0),u32s co,none⟩),(65,⟨false,some (0,0),rels ro,none⟩),(66,⟨false,some (0,0),u32s so,none⟩)],lo:=[],esc:=0,T:=[],k:=1,O:=(True∧ImOk ro so∧(rr (Value.agg ⟨[.int .i64 p,.int .i64 s,.int .i64 t,.slice (some ⟨64,0,none⟩) co.length 9223372036854775872,.string ⟨⟨d⟩⟩,.slice (some ⟨65,0,none⟩) ro.length 9223372036854775873,.slice (some ⟨66,0,none⟩) so.length 9223372036854775874]⟩)∧True)∧(((tt∧(rels ro).all (okV (fun l => l.blt 67) 3) = true∧tt∧tt∧tt∧True∧rels ro = List.map (rnV (lift 67 69 [64,65,66]) 3) (rels ro))∧(tt∧(u32s so).all (okV (fun l => l.blt 67) 3) = true∧tt∧tt∧tt∧True∧u32s so = List.map (rnV (lift 67 69 [64,65,66]) 3) (u32s so))∧True)∧tt∧tt)∧True)∧((↑(errOf p s t co.length d ro so):Int) != (0:Int)) = true : St }):=by kernel_rfl
theorem eb_con (p s t : Int) (co : List Nat) (ro : List Rl) (so : List Nat) (d : List UInt8) (hi : ImOk ro so) (hc : ∀ x ∈ co,x < 4294967296) : ConOk Try.prog 18 3 (imEC p s t co ro so d):=by
 by_cases he : errOf p s t co.length d ro so = 0
 ·obtain ⟨n1,n2,n3,n4⟩:=err_long he
  have w1 : (eA0 p s t co.length).length = 16:=by simp only [rr, tt, eA0,List.length_append,u4_len]
  have w2 : (eA1 p s t co ro.length d).length = 16 + co.length * 4 + 8 + d.length:=by simp only [rr, tt, eA1,List.length_append,u4_len,w1,flat4_len]; omega
  have w3 : (eA2 p s t co ro so.length d).length = 16 + co.length * 4 + 8 + d.length + ro.length * 17 + 4:=by simp only [rr, tt, eA2,List.length_append,u4_len,w2,flatR_len]
  have hh:=eb_a p s t co ro so d (eA0 p s t co.length) (eA1 p s t co ro.length d) (eA2 p s t co ro so.length d) (by omega) hi.rels (by omega)
  have q1 : (IntKind.u32.wrap ((co.length : Nat) : Int)) = ((co.length : Nat) : Int):=w32 _ (by omega)
  have hR : imR p s t co ro so d = .tuple ⟨[.string ⟨⟨imB p s t co ro so d⟩⟩,.int .i64 0]⟩:=by unfold imR imS; rw [he]; rfl
  have h0 : (((errOf p s t co.length d ro so : Nat) : Int) != 0) = false:=by rw [he]; rfl
  have b0 : (imB p s t co ro so d).length ≤ 10000000:=by simp only [rr, tt, imB,List.length_append,w3,flat4_len]; omega
  rw [show imEC p s t co ro so d = ⟨[imgV p s t co.length ro.length so.length d],67,eyH co ro so,[],.tuple ⟨[.string ⟨⟨imB p s t co ro so d⟩⟩,.int .i64 0]⟩,67,[],[]⟩ from by unfold imEC; rw [hR]]
  have hB : eA2 p s t co ro so.length d ++ so.flatMap (leB 4) = imB p s t co ro so d:=rfl
  rw [hB] at hh
  simp only [rr, tt, str_u8s,pu_take,u8s_app,List.nil_append] at hh
  refine conOk_run (T:=[(0,false),(2,false)]) (run_ok (L:=100) i_names (baseE_ok co ro so _ _) (lpEsc_ok _) 10) ?_ hh ?_ (p:=fun l => Nat.blt l 67) (σ:=id) ?_
  ·exact ⟨by show NG ≤ 67; decide,Nat.le_refl _,⟨⟨rfl,rfl,flat_bnd (u32s_flat co)⟩,⟨rfl,rfl,flat_bnd (rels_flat ro)⟩,⟨rfl,rfl,flat_bnd (u32s_flat so)⟩,trivial⟩,rfl,rfl,rfl,by kernel_rfl,rfl,fun x hx => by cases hx⟩
  ·have z1:=oneC_flat (u8s_flat d)
   have z2 : ∀ w x,oneC (u8s (leB w x)) = true:=fun w x => oneC_flat (u8s_flat _)
   have z3 : ∀ x,(0 : Int) ≤ IntKind.u32.wrap x:=fun x => by rw [IntKind.wrap_u32]; omega
   have z4 : ∀ x,IntKind.u32.wrap x < 4294967296:=fun x => by rw [IntKind.wrap_u32]; omega
   have f1 : ∀ p d,(rels ro).all (okV p d) = true:=fun _ _ => flat_all (rels_flat ro)
   have f2 : ∀ σ d,(rels ro).map (rnV σ d) = rels ro:=fun _ _ => flat_map (rels_flat ro)
   have f3 : ∀ xs p d,(u32s xs).all (okV p d) = true:=fun xs _ _ => flat_all (u32s_flat xs)
   have f4 : ∀ xs σ d,(u32s xs).map (rnV σ d) = u32s xs:=fun xs _ _ => flat_map (u32s_flat xs)
   have z5 : Nat.ble 4 0 = false:=rfl
   have f5 : ∀ xs p d,(u8s xs).all (okV p d) = true:=fun xs _ _ => flat_all (u8s_flat xs)
   have f6 : ∀ xs σ d,(u8s xs).map (rnV σ d) = u8s xs:=fun xs _ _ => flat_map (u8s_flat xs)
   have hp1 : pvOk co (eA0 p s t co.length):=⟨by omega,hc,by omega⟩
   have hp2 : pvOk so (eA2 p s t co ro so.length d):=⟨by omega,hi.nums,by omega⟩
   simp (disch:=omega) only [rr, tt, isU8_u8s,u8s_has,lenT_eq,List.length_append,List.length_nil,Nat.zero_le,u8s_len,leB_len,flat4_len,flatR_len,w1,w2,w3,Nat.mul_one,Nat.zero_add,ble_t,blt_t,beq_t,z1,z2,z3,z4,z5,f1,f2,f3,f4,f5,f6,h0,decide_true,Nat.le_refl,Bool.and_self,cond_true,or_true,and_true,true_and,and_self]
   repeat' (with_reducible apply And.intro)
   all_goals first | exact hi | omega | (simp only [rr, tt, eA0,eA1,eA2,u4,List.append_assoc]; done) | exact hp1 | exact hp2 | exact congrArg (fun n => [Value.slice _ n _]) (by omega)
  ·exact ⟨fun _ _ => rfl,trivial,rfl,trivial,⟨rfl,rfl⟩,rfl,trivial,rfl,bnd_flat2 _ rfl,fun x hx => by cases hx⟩
 ·have h0 : (((errOf p s t co.length d ro so : Nat) : Int) != 0) = true:=by simp; omega
  have hR : imR p s t co ro so d = .tuple ⟨[.string ⟨⟨[]⟩⟩,.int .i64 (errOf p s t co.length d ro so : Nat)]⟩:=by unfold imR imS; rw [beq_f he]; rfl
  rw [show imEC p s t co ro so d = ⟨[imgV p s t co.length ro.length so.length d],67,eyH co ro so,[],.tuple ⟨[.string ⟨⟨[]⟩⟩,.int .i64 (errOf p s t co.length d ro so : Nat)]⟩,67,[],[]⟩ from by unfold imEC; rw [hR]]
  refine conOk_run (T:=[(0,true)]) (run_ok (L:=100) i_names (baseR_ok (selLayAt_ok ro so) (baseC_ok (d:=3) selPut_ok)) (noLoop_ok _) 10) ?_ (eb_e p s t co ro so d) ?_ (p:=fun l => Nat.blt l 67) (σ:=id) ?_
  ·exact ⟨by show NG ≤ 67; decide,Nat.le_refl _,⟨⟨rfl,rfl,flat_bnd (u32s_flat co)⟩,⟨rfl,rfl,flat_bnd (rels_flat ro)⟩,⟨rfl,rfl,flat_bnd (u32s_flat so)⟩,trivial⟩,rfl,rfl,rfl,by kernel_rfl,rfl,fun x hx => by cases hx⟩
  ·have f1 : ∀ p d,(rels ro).all (okV p d) = true:=fun _ _ => flat_all (rels_flat ro)
   have f2 : ∀ σ d,(rels ro).map (rnV σ d) = rels ro:=fun _ _ => flat_map (rels_flat ro)
   have f3 : ∀ xs p d,(u32s xs).all (okV p d) = true:=fun xs _ _ => flat_all (u32s_flat xs)
   have f4 : ∀ xs σ d,(u32s xs).map (rnV σ d) = u32s xs:=fun xs _ _ => flat_map (u32s_flat xs)
   simp only [rr, tt, f1,f2,f3,f4,h0,Bool.and_self,cond_true,or_true,and_true,true_and,and_self]
   repeat' (with_reducible apply And.intro)
   all_goals first | exact hi | with_reducible rfl
  ·exact ⟨fun _ _ => rfl,trivial,rfl,trivial,⟨rfl,rfl⟩,rfl,trivial,rfl,bnd_flat2 _ rfl,fun x hx => by cases hx⟩
end Go.Proofs.Ytdljpnebpoaeiaa
namespace Go.Proofs.Ytdljpnebpoaeiaa
open Go.RowKit
open Sy
def eqH (xs ys : List Nat) : Sy.Heap:=[(64,⟨false,some (0,0),u32s xs,none⟩),(65,⟨false,some (0,0),u32s ys,none⟩)]
def eqI (xs ys : List Nat) (k : Nat) : Sf:=⟨66,[(0,.slice (some ⟨64,0,none⟩) xs.length (big + 64)),(1,.slice (some ⟨65,0,none⟩) ys.length (big + 65)),(12,.int .i64 (xs.length : Nat)),(13,.int .i64 (k : Nat))],eqH xs ys,[]⟩
def eqF : Sf:=⟨66,[(4,.bool false)],[],[]⟩
def eqN : Sf:=⟨66,[],[],[]⟩
theorem eq_next (xs : List Nat) (ys : List Nat) (k : Nat) : evC Try.prog (evF Try.prog noBase noLoop 100 3) (noLoop 32) 26 100 (loopOf Try.prog 32 0) (Sf.frT 26 (eqI xs ys k) [(0,true),(1,false)]) = some (Exit.normal,{ e:=[[Value.slice (some ⟨64,0,none⟩) xs.length 9223372036854775872,.slice (some ⟨65,0,none⟩) ys.length 9223372036854775873,unk,unk,unk,.int .i64 (↑k),unk,unk,unk,unk,unk,unk,.int .i64 (↑xs.length),.int .i64 (IntKind.i64.wrap ((↑k : Int) + (1 : Int))),.bool (decide ((↑k : Int) < (↑xs.length : Int))),.int .i64 (↑k)],[Value.slice (some ⟨64,0,none⟩) xs.length 9223372036854775872,.int .i64 (↑k),.pointer (some { block:=64,off:=0 + (↑k : Int).toNat * 1 }),.int .u32 (intOf' (getD' undef (u32s xs) (0 + (↑k : Int).toNat * 1))),.slice (some ⟨65,0,none⟩) ys.length 9223372036854775873,.int .i64 (↑k),.pointer (some { block:=65,off:=0 + (↑k : Int).toNat * 1 }),.int .u32 (intOf' (getD' undef (u32s ys) (0 + (↑k : Int).toNat * 1))),.bool (intOf' (getD' undef (u32s xs) (0 + (↑k : Int).toNat * 1)) != intOf' (getD' undef (u32s ys) (0 + (↑k : Int).toNat * 1))),.int .i64 (IntKind.i64.wrap ((↑k : Int) + (1 : Int))),unk,unk,unk,unk,unk,unk]],s:={ n:=66,h:=[(64,⟨false,some (0,0),u32s xs,none⟩),(65,⟨false,some (0,0),u32s ys,none⟩)],lo:=[],esc:=0,T:=[],k:=2,O:=(bif hasN (0 + (↑k : Int).toNat * 1 + 1) (u32s ys) && isLikeL [Value.int .u32 0] (u32s ys) (0 + (↑k : Int).toNat * 1) then bif decide ((0 : Int) ≤ (↑k : Int)) && decide ((↑k : Int) < (↑ys.length : Int)) then bif hasN (0 + (↑k : Int).toNat * 1 + 1) (u32s xs) && isLikeL [Value.int .u32 0] (u32s xs) (0 + (↑k : Int).toNat * 1) then bif decide ((0 : Int) ≤ (↑k : Int)) && decide ((↑k : Int) < (↑xs.length : Int)) then True ∧ decide ((↑k : Int) < (↑xs.length : Int)) = true else False else False else False else False) ∧ (intOf' (getD' undef (u32s xs) (0 + (↑k : Int).toNat * 1)) != intOf' (getD' undef (u32s ys) (0 + (↑k : Int).toNat * 1))) = false : St } : Fr }):=by kernel_rfl
theorem eq_bad (xs : List Nat) (ys : List Nat) (k : Nat) : evC Try.prog (evF Try.prog noBase noLoop 100 3) (noLoop 32) 26 100 (loopOf Try.prog 32 0) (Sf.frT 26 (eqI xs ys k) [(0,true),(1,true)]) = some (Exit.ret,{ e:=[[Value.slice (some ⟨64,0,none⟩) xs.length 9223372036854775872,.slice (some ⟨65,0,none⟩) ys.length 9223372036854775873,unk,unk,.bool false,.int .i64 (↑k),unk,unk,unk,unk,unk,unk,.int .i64 (↑xs.length),.int .i64 (↑k),.bool (decide ((↑k : Int) < (↑xs.length : Int))),.int .i64 (↑k)],[Value.slice (some ⟨64,0,none⟩) xs.length 9223372036854775872,.int .i64 (↑k),.pointer (some { block:=64,off:=0 + (↑k : Int).toNat * 1 }),.int .u32 (intOf' (getD' undef (u32s xs) (0 + (↑k : Int).toNat * 1))),.slice (some ⟨65,0,none⟩) ys.length 9223372036854775873,.int .i64 (↑k),.pointer (some { block:=65,off:=0 + (↑k : Int).toNat * 1 }),.int .u32 (intOf' (getD' undef (u32s ys) (0 + (↑k : Int).toNat * 1))),.bool (intOf' (getD' undef (u32s xs) (0 + (↑k : Int).toNat * 1)) != intOf' (getD' undef (u32s ys) (0 + (↑k : Int).toNat * 1))),unk,unk,unk,unk,unk,unk,unk]],s:={ n:=66,h:=[(64,⟨false,some (0,0),u32s xs,none⟩),(65,⟨false,some (0,0),u32s ys,none⟩)],lo:=[],esc:=0,T:=[],k:=2,O:=(bif hasN (0 + (↑k : Int).toNat * 1 + 1) (u32s ys) && isLikeL [Value.int .u32 0] (u32s ys) (0 + (↑k : Int).toNat * 1) then bif decide ((0 : Int) ≤ (↑k : Int)) && decide ((↑k : Int) < (↑ys.length : Int)) then bif hasN (0 + (↑k : Int).toNat * 1 + 1) (u32s xs) && isLikeL [Value.int .u32 0] (u32s xs) (0 + (↑k : Int).toNat * 1) then bif decide ((0 : Int) ≤ (↑k : Int)) && decide ((↑k : Int) < (↑xs.length : Int)) then True ∧ decide ((↑k : Int) < (↑xs.length : Int)) = true else False else False else False else False) ∧ (intOf' (getD' undef (u32s xs) (0 + (↑k : Int).toNat * 1)) != intOf' (getD' undef (u32s ys) (0 + (↑k : Int).toNat * 1))) = true : St } : Fr }):=by kernel_rfl
theorem eq_end (xs : List Nat) (ys : List Nat) (k : Nat) : evC Try.prog (evF Try.prog noBase noLoop 100 3) (noLoop 32) 26 100 (loopOf Try.prog 32 0) (Sf.frT 26 (eqI xs ys k) [(0,false)]) = some (Exit.exit 0,{ e:=[[Value.slice (some ⟨64,0,none⟩) xs.length 9223372036854775872,.slice (some ⟨65,0,none⟩) ys.length 9223372036854775873,unk,unk,unk,unk,unk,unk,unk,unk,unk,unk,.int .i64 (↑xs.length),.int .i64 (↑k),.bool (decide ((↑k : Int) < (↑xs.length : Int))),unk],[unk,unk,unk,unk,unk,unk,unk,unk,unk,unk,unk,unk,unk,unk,unk,unk]],s:={ n:=66,h:=[(64,⟨false,some (0,0),u32s xs,none⟩),(65,⟨false,some (0,0),u32s ys,none⟩)],lo:=[],esc:=0,T:=[],k:=1,O:=True ∧ decide ((↑k : Int) < (↑xs.length : Int)) = false : St } : Fr }):=by kernel_rfl
theorem eq_wf (xs ys : List Nat) (k : Nat) : (eqI xs ys k).Wf :=
 ⟨by show NG ≤ 66; decide,Sf.Ok.mk' 3 ⟨⟨rfl,rfl,flat_bnd (u32s_flat xs)⟩,⟨rfl,rfl,flat_bnd (u32s_flat ys)⟩,trivial⟩ rfl (fun x hx => by
  have : (eqI xs ys k).e.all (fun x => okV (fun l => Nat.blt l 66) 3 x.2) = true:=by kernel_rfl
  exact List.all_eq_true.1 this x hx)⟩
theorem eqF_ok : eqF.Ok (keeps 66 66 id (fun l => Nat.blt l 66)):=Sf.Ok.mk' 3 trivial rfl (fun x hx => by
  have : eqF.e.all (fun x => okV (keeps 66 66 id (fun l => Nat.blt l 66)) 3 x.2) = true:=by kernel_rfl
  exact List.all_eq_true.1 this x hx)
theorem eqN_ok : eqN.Ok (keeps 66 66 id (fun l => Nat.blt l 66)):=Sf.Ok.mk' 3 trivial rfl (fun x hx => by cases hx)
theorem eq_step_next (xs ys : List Nat) (k : Nat) (e : Sf) (hm : xs.length < 9000000000000000000) (hk : k < xs.length) (hl : ys.length = xs.length) (hv : xs.getD k 0 = ys.getD k 0) (hn : e.n = 66) (he : e.Ok (keeps 66 66 id (fun l => Nat.blt l 66))) :
  ∃ g,evC Try.prog (evF Try.prog noBase noLoop 100 3) (noLoop 32) 26 100 (loopOf Try.prog 32 0) ((eqI xs ys k).frT 26 [(0,true),(1,false)]) = some (.normal,g) ∧ g.s.O ∧ Sf.Leads 3 (fun l => Nat.blt l 66) id (eqI xs ys k) g (eqI xs ys (k + 1)) e:=by
 refine ⟨_,eq_next xs ys k,?_,?_⟩
 ·simp only [rr, tt, u32s_has,u32s_like,u32s_at,Int.toNat_natCast,Nat.zero_add,Nat.mul_one,hv]
  exact ⟨bif_true (by simp; omega) (bif_true (by simp; omega) (bif_true (by simp; omega) (bif_true (by simp; omega) ⟨trivial,by simp; omega⟩))),by simp⟩
 ·refine ⟨fun _ _ => rfl,⟨⟨rfl,flat_all (u32s_flat xs),rfl,rfl,rfl,trivial,(flat_map (u32s_flat xs)).symm⟩,⟨rfl,flat_all (u32s_flat ys),rfl,rfl,rfl,trivial,(flat_map (u32s_flat ys)).symm⟩,trivial⟩,rfl,trivial,⟨⟨by kernel_rfl,by kernel_rfl⟩,⟨by kernel_rfl,by kernel_rfl⟩,⟨rfl,by kernel_rfl⟩,⟨rfl,?_⟩,trivial⟩,Nat.le_refl _,fun l hl => blt_no hl,?_,?_⟩
  ·refine Eq.trans (b:=Value.int .i64 (IntKind.i64.wrap ((k : Int) + 1))) (by kernel_rfl) ?_
   rw [cast_succ_i64 k (by omega)]; rfl
  ·rw [hn]; exact he
  ·intro x _ _; exact .inl rfl
theorem eq_step_bad (xs ys : List Nat) (k : Nat) (hk : k < xs.length) (hl : ys.length = xs.length) (hv : xs.getD k 0 ≠ ys.getD k 0) :
  ∃ g,evC Try.prog (evF Try.prog noBase noLoop 100 3) (noLoop 32) 26 100 (loopOf Try.prog 32 0) ((eqI xs ys k).frT 26 [(0,true),(1,true)]) = some (.ret,g) ∧ g.s.O ∧ Sf.Leads 3 (fun l => Nat.blt l 66) id (eqI xs ys k) g eqF eqF:=by
 refine ⟨_,eq_bad xs ys k,?_,?_⟩
 ·simp only [rr, tt, u32s_has,u32s_like,u32s_at,Int.toNat_natCast,Nat.zero_add,Nat.mul_one]
  exact ⟨bif_true (by simp; omega) (bif_true (by simp; omega) (bif_true (by simp; omega) (bif_true (by simp; omega) ⟨trivial,by simp; omega⟩))),by rw [bne_iff_ne]; omega⟩
 ·exact ⟨fun _ _ => rfl,trivial,rfl,trivial,⟨⟨by kernel_rfl,by kernel_rfl⟩,trivial⟩,Nat.le_refl _,fun l hl => blt_no hl,eqF_ok,fun x hx => by cases hx⟩
theorem eq_step_end (xs ys : List Nat) (k : Nat) (hk : k = xs.length) :
  ∃ g,evC Try.prog (evF Try.prog noBase noLoop 100 3) (noLoop 32) 26 100 (loopOf Try.prog 32 0) ((eqI xs ys k).frT 26 [(0,false)]) = some (.exit 0,g) ∧ g.s.O ∧ Sf.Leads 3 (fun l => Nat.blt l 66) id (eqI xs ys k) g eqN eqN:=by
 refine ⟨_,eq_end xs ys k,?_,?_⟩
 ·subst hk; simp
 ·exact ⟨fun _ _ => rfl,trivial,rfl,trivial,trivial,Nat.le_refl _,fun l hl => blt_no hl,eqN_ok,fun x hx => by cases hx⟩
theorem eq_found (xs ys : List Nat) (j : Nat) (hm : xs.length < 9000000000000000000) (hl : ys.length = xs.length) (hj : j < xs.length) (hv : xs.getD j 0 ≠ ys.getD j 0) (hn : ∀ i,i < j → xs.getD i 0 = ys.getD i 0) :
  ∀ x : { k : Nat // k ≤ j },LoopOk Try.prog 26 (loopOf Try.prog 32 0) ((eqI xs ys x.1).fr 26) .ret (eqF.fr 26):=by
 refine loop_ok (L:=100) (run_ok (L:=100) i_names (noBase_ok _) (noLoop_ok _) 3) (noLoop_any _ _ 32) (fun _ h => h) (X:={ k : Nat // k ≤ j }) (fun x => eqI xs ys x.1) (fun _ => eqF) (fun _ => .ret) (fun x => j - x.1) (fun x => eq_wf xs ys x.1) ?_
 rintro ⟨k,hk⟩
 by_cases h : k = j
 ·subst h
  obtain ⟨g,h1,h2,h3⟩:=eq_step_bad xs ys k hj hl hv
  exact ⟨_,.ret,g,3,_,_,h1,h2,.inr ⟨by simp,rfl,h3⟩⟩
 ·obtain ⟨g,h1,h2,h3⟩:=eq_step_next xs ys k eqF hm (by omega) hl (hn k (by omega)) rfl eqF_ok
  exact ⟨_,.normal,g,3,_,_,h1,h2,.inl ⟨rfl,⟨k + 1,by omega⟩,by show j - (k + 1) < j - k; omega,rfl,rfl,h3⟩⟩
theorem eq_none (xs ys : List Nat) (hm : xs.length < 9000000000000000000) (hl : ys.length = xs.length) (hn : ∀ i,i < xs.length → xs.getD i 0 = ys.getD i 0) :
  ∀ x : { k : Nat // k ≤ xs.length },LoopOk Try.prog 26 (loopOf Try.prog 32 0) ((eqI xs ys x.1).fr 26) (.exit 0) (eqN.fr 26):=by
 refine loop_ok (L:=100) (run_ok (L:=100) i_names (noBase_ok _) (noLoop_ok _) 3) (noLoop_any _ _ 32) (fun _ h => h) (X:={ k : Nat // k ≤ xs.length }) (fun x => eqI xs ys x.1) (fun _ => eqN) (fun _ => .exit 0) (fun x => xs.length - x.1) (fun x => eq_wf xs ys x.1) ?_
 rintro ⟨k,hk⟩
 by_cases h : k < xs.length
 ·obtain ⟨g,h1,h2,h3⟩:=eq_step_next xs ys k eqN hm h hl (hn k h) rfl eqN_ok
  exact ⟨_,.normal,g,3,_,_,h1,h2,.inl ⟨rfl,⟨k + 1,by omega⟩,by show xs.length - (k + 1) < xs.length - k; omega,rfl,rfl,h3⟩⟩
 ·obtain ⟨g,h1,h2,h3⟩:=eq_step_end xs ys k (by omega)
  exact ⟨_,.exit 0,g,3,_,_,h1,h2,.inr ⟨by simp,rfl,h3⟩⟩
def eqEntF (xs ys : List Nat) (j : Nat) (hm : xs.length < 9000000000000000000) (hl : ys.length = xs.length) (hj : j < xs.length) (hv : xs.getD j 0 ≠ ys.getD j 0) (hn : ∀ i,i < j → xs.getD i 0 = ys.getD i 0) : Ent Try.prog :=
 entC Try.prog 32 0 26 (eqI xs ys 0) .ret eqF (by kernel_rfl) (by kernel_rfl) (eq_found xs ys j hm hl hj hv hn ⟨0,Nat.zero_le _⟩)
def eqEntN (xs ys : List Nat) (hm : xs.length < 9000000000000000000) (hl : ys.length = xs.length) (hn : ∀ i,i < xs.length → xs.getD i 0 = ys.getD i 0) : Ent Try.prog :=
 entC Try.prog 32 0 26 (eqI xs ys 0) (.exit 0) eqN (by kernel_rfl) (by kernel_rfl) (eq_none xs ys hm hl hn ⟨0,Nat.zero_le _⟩)
end Go.Proofs.Ytdljpnebpoaeiaa
namespace Go.Proofs.Ytdljpnebpoaeiaa
open Go.RowKit
open Sy
theorem eqf_len (xs ys : List Nat) : evF Try.prog noBase noLoop 100 10 32 [Value.slice (some ⟨64,0,none⟩) xs.length (big+64),.slice (some ⟨65,0,none⟩) ys.length (big+65)] ⟨66,eqH xs ys,[],0,[(0,true)],0,True⟩ = some (Value.bool false,{ n:=66,h:=[(64,⟨false,some (0,0),u32s xs,none⟩),(65,⟨false,some (0,0),u32s ys,none⟩)],lo:=[],esc:=0,T:=[],k:=1,O:=True∧((↑xs.length:Int) != (↑ys.length:Int)) = true : St }):=by kernel_rfl
theorem eqf_bad (xs ys : List Nat) (j : Nat) (hm : xs.length < 9000000000000000000) (hl : ys.length = xs.length) (hj : j < xs.length) (hv : xs.getD j 0 ≠ ys.getD j 0) (hn : ∀ (i : Nat),i < j → xs.getD i 0 = ys.getD i 0) : evF Try.prog noBase (lpOf [eqEntF xs ys j hm hl hj hv hn]) 100 10 32 [Value.slice (some ⟨64,0,none⟩) xs.length (big+64),.slice (some ⟨65,0,none⟩) ys.length (big+65)] ⟨66,eqH xs ys,[],0,[(0,false)],0,True⟩ = some (Value.bool false,{ n:=66,h:=[(64,⟨false,some (0,0),u32s xs,none⟩),(65,⟨false,some (0,0),u32s ys,none⟩)],lo:=[],esc:=0,T:=[],k:=1,O:=(True∧((↑xs.length:Int) != (↑ys.length:Int)) = false)∧(rr (Value.slice (some ⟨64,0,none⟩) xs.length 9223372036854775872)∧rr (Value.slice (some ⟨65,0,none⟩) ys.length 9223372036854775873)∧rr (Value.int .i64 (↑xs.length))∧rr (Value.int .i64 0)∧True)∧((tt∧tt∧True∧rr (u32s xs))∧(tt∧tt∧True∧rr (u32s ys))∧True)∧True∧True : St }):=by kernel_rfl
theorem eqf_ok (xs ys : List Nat) (hm : xs.length < 9000000000000000000) (hl : ys.length = xs.length) (hn : ∀ (i : Nat),i < xs.length → xs.getD i 0 = ys.getD i 0) : evF Try.prog noBase (lpOf [eqEntN xs ys hm hl hn]) 100 10 32 [Value.slice (some ⟨64,0,none⟩) xs.length (big+64),.slice (some ⟨65,0,none⟩) ys.length (big+65)] ⟨66,eqH xs ys,[],0,[(0,false)],0,True⟩ = some (Value.bool true,{ n:=66,h:=[(64,⟨false,some (0,0),u32s xs,none⟩),(65,⟨false,some (0,0),u32s ys,none⟩)],lo:=[],esc:=0,T:=[],k:=1,O:=(True∧((↑xs.length:Int) != (↑ys.length:Int)) = false)∧(rr (Value.slice (some ⟨64,0,none⟩) xs.length 9223372036854775872)∧rr (Value.slice (some ⟨65,0,none⟩) ys.length 9223372036854775873)∧rr (Value.int .i64 (↑xs.length))∧rr (Value.int .i64 0)∧True)∧((tt∧tt∧True∧rr (u32s xs))∧(tt∧tt∧True∧rr (u32s ys))∧True)∧True∧True : St }):=by kernel_rfl
def eqC (xs ys : List Nat) : Con:=⟨[.slice (some ⟨64,0,none⟩) xs.length (big + 64),.slice (some ⟨65,0,none⟩) ys.length (big + 65)],66,eqH xs ys,[],.bool (decide (xs = ys)),66,[],[]⟩
theorem eq_len (xs ys : List Nat) (h : xs.length ≠ ys.length) : decide (xs = ys) = false:=by
 rw [decide_eq_false_iff_not]; intro e; rw [e] at h; exact h rfl
theorem eq_iff (xs ys : List Nat) (hl : ys.length = xs.length) : xs = ys ↔ ∀ i,i < xs.length → xs.getD i 0 = ys.getD i 0:=by
 constructor
 ·rintro rfl i _; rfl
 ·intro h
  apply List.ext_getElem hl.symm
  intro i h1 h2
  have:=h i h1
  rw [List.getD_eq_getElem?_getD,List.getD_eq_getElem?_getD,List.getElem?_eq_getElem h1,List.getElem?_eq_getElem h2] at this
  simpa using this
theorem eq_wfC (xs ys : List Nat) (v : Bool) : (⟨[.slice (some ⟨64,0,none⟩) xs.length (big + 64),.slice (some ⟨65,0,none⟩) ys.length (big + 65)],66,eqH xs ys,[],.bool v,66,[],[]⟩ : Con).Wf 3 :=
 ⟨by show NG ≤ 66; decide,Nat.le_refl _,⟨⟨rfl,rfl,flat_bnd (u32s_flat xs)⟩,⟨rfl,rfl,flat_bnd (u32s_flat ys)⟩,trivial⟩,rfl,rfl,rfl,by kernel_rfl,rfl,fun x hx => by cases hx⟩
theorem eq_any {lp : FuncId → LoopK} (hlp : SoundCall Try.prog (evF Try.prog noBase lp 100 10)) {xs ys : List Nat} {T : List (Nat × Bool)} {v v' : Bool} {s' : St}
  (h : evF Try.prog noBase lp 100 10 32 [.slice (some ⟨64,0,none⟩) xs.length (big + 64),.slice (some ⟨65,0,none⟩) ys.length (big + 65)] ⟨66,eqH xs ys,[],0,T,0,True⟩ = some (.bool v,s')) (hv : v = v') (hO : s'.O) :
  ConOk Try.prog 32 3 ⟨[.slice (some ⟨64,0,none⟩) xs.length (big + 64),.slice (some ⟨65,0,none⟩) ys.length (big + 65)],66,eqH xs ys,[],.bool v',66,[],[]⟩:=by
 subst hv
 refine conOk_run (T:=T) hlp (eq_wfC xs ys v) h hO (p:=fun l => Nat.blt l 66) (σ:=id) ?_
 exact ⟨fun _ _ => rfl,trivial,rfl,trivial,⟨rfl,rfl⟩,rfl,trivial,rfl,bnd_flat0 _ rfl,fun x hx => by cases hx⟩
theorem eq_con (xs ys : List Nat) (hm : xs.length < 9000000000000000000) : ConOk Try.prog 32 3 (eqC xs ys):=by
 by_cases hl : ys.length = xs.length
 ·have hl' : (((xs.length : Nat) : Int) != ((ys.length : Nat) : Int)) = false:=by rw [hl]; simp
  by_cases hn : ∀ i,i < xs.length → xs.getD i 0 = ys.getD i 0
  ·have hh:=eqf_ok xs ys hm hl hn
   refine eq_any (run_ok i_names (noBase_ok _) (lpOf_ok _) 10) hh (by symm; rw [decide_eq_true_eq]; exact (eq_iff xs ys hl).2 hn) ?_
   simp only [rr, tt, hl']
   repeat' (with_reducible apply And.intro)
   all_goals first | with_reducible trivial | with_reducible rfl
  ·have hf : ((List.range xs.length).any fun i => decide (xs.getD i 0 ≠ ys.getD i 0)) = true:=by
    rw [List.any_eq_true]
    obtain ⟨i,hi⟩:=Classical.not_forall.1 hn
    obtain ⟨h1,h2⟩:=Classical.not_imp.1 hi
    exact ⟨i,List.mem_range.2 h1,by simpa using h2⟩
   obtain ⟨j,hj,hv,hb⟩:=first_of _ _ hf
   have hh:=eqf_bad xs ys j hm hl hj (by simpa using hv) (fun i hij => by have:=hb i hij; simpa using this)
   refine eq_any (run_ok i_names (noBase_ok _) (lpOf_ok _) 10) hh (by symm; rw [decide_eq_false_iff_not]; exact fun e => hn ((eq_iff xs ys hl).1 e)) ?_
   simp only [rr, tt, hl']
   repeat' (with_reducible apply And.intro)
   all_goals first | with_reducible trivial | with_reducible rfl
 ·have hh:=eqf_len xs ys
  have hl' : (((xs.length : Nat) : Int) != ((ys.length : Nat) : Int)) = true:=by rw [bne_iff_ne]; omega
  refine eq_any (run_ok i_names (noBase_ok _) (noLoop_ok _) 10) hh (eq_len xs ys (by omega)).symm ?_
  simp only [rr, tt, hl']
  repeat' (with_reducible apply And.intro)
  all_goals first | with_reducible trivial | with_reducible rfl
end Go.Proofs.Ytdljpnebpoaeiaa
namespace Go.Proofs.Ytdljpnebpoaeiaa
open Go.RowKit
open Sy
def esH (xs ys : List Rl) : Sy.Heap:=[(64,⟨false,some (0,0),rels xs,none⟩),(65,⟨false,some (0,0),rels ys,none⟩)]
def esI (xs ys : List Rl) (k : Nat) : Sf:=⟨66,[(0,.slice (some ⟨64,0,none⟩) xs.length (big + 64)),(1,.slice (some ⟨65,0,none⟩) ys.length (big + 65)),(12,.int .i64 (xs.length : Nat)),(13,.int .i64 (k : Nat))],esH xs ys,[]⟩
def esF : Sf:=⟨66,[(4,.bool false)],[],[]⟩
def esN : Sf:=⟨66,[],[],[]⟩
def rlB (a b : Rl) : Bool:=((a.at_ : Int) == (b.at_ : Int)) && ((a.code == b.code) && (((a.off : Int) == (b.off : Int)) && (((a.size : Int) == (b.size : Int)) && (((a.perms : Int) == (b.perms : Int)) && (((a.typ : Int) == (b.typ : Int)) && true)))))
def relsB (xs ys : List Rl) : Bool:=decide (xs.length = ys.length) && (List.range xs.length).all fun i => rlB (rl0 xs i) (rl0 ys i)
theorem es_next (xs : List Rl) (ys : List Rl) (k : Nat) : evC Try.prog (evF Try.prog noBase noLoop 100 3) (noLoop 33) 26 100 (loopOf Try.prog 33 0) (Sf.frT 26 (esI xs ys k) [(0,true),(1,false)]) = some (Exit.normal,{ e:=[[Value.slice (some ⟨64,0,none⟩) xs.length 9223372036854775872,.slice (some ⟨65,0,none⟩) ys.length 9223372036854775873,unk,unk,unk,.int .i64 (↑k),unk,unk,unk,unk,unk,unk,.int .i64 (↑xs.length),.int .i64 (IntKind.i64.wrap ((↑k : Int) + (1 : Int))),.bool (decide ((↑k : Int) < (↑xs.length : Int))),.int .i64 (↑k)],[Value.slice (some ⟨64,0,none⟩) xs.length 9223372036854775872,.int .i64 (↑k),.pointer (some { block:=64,off:=0 + (↑k : Int).toNat * 6 }),.agg ⟨[.int .u32 (intOf' (getD' undef (rels xs) (0 + (↑k : Int).toNat * 6))),.bool (boolOf' (getD' undef (rels xs) (0 + (↑k : Int).toNat * 6 + 1))),.int .u32 (intOf' (getD' undef (rels xs) (0 + (↑k : Int).toNat * 6 + 1 + 1))),.int .u32 (intOf' (getD' undef (rels xs) (0 + (↑k : Int).toNat * 6 + 1 + 1 + 1))),.int .u16 (intOf' (getD' undef (rels xs) (0 + (↑k : Int).toNat * 6 + 1 + 1 + 1 + 1))),.int .u16 (intOf' (getD' undef (rels xs) (0 + (↑k : Int).toNat * 6 + 1 + 1 + 1 + 1 + 1)))]⟩,.slice (some ⟨65,0,none⟩) ys.length 9223372036854775873,.int .i64 (↑k),.pointer (some { block:=65,off:=0 + (↑k : Int).toNat * 6 }),.agg ⟨[.int .u32 (intOf' (getD' undef (rels ys) (0 + (↑k : Int).toNat * 6))),.bool (boolOf' (getD' undef (rels ys) (0 + (↑k : Int).toNat * 6 + 1))),.int .u32 (intOf' (getD' undef (rels ys) (0 + (↑k : Int).toNat * 6 + 1 + 1))),.int .u32 (intOf' (getD' undef (rels ys) (0 + (↑k : Int).toNat * 6 + 1 + 1 + 1))),.int .u16 (intOf' (getD' undef (rels ys) (0 + (↑k : Int).toNat * 6 + 1 + 1 + 1 + 1))),.int .u16 (intOf' (getD' undef (rels ys) (0 + (↑k : Int).toNat * 6 + 1 + 1 + 1 + 1 + 1)))]⟩,.bool !(intOf' (getD' undef (rels xs) (0 + (↑k : Int).toNat * 6)) == intOf' (getD' undef (rels ys) (0 + (↑k : Int).toNat * 6)) && (boolOf' (getD' undef (rels xs) (0 + (↑k : Int).toNat * 6 + 1)) == boolOf' (getD' undef (rels ys) (0 + (↑k : Int).toNat * 6 + 1)) && (intOf' (getD' undef (rels xs) (0 + (↑k : Int).toNat * 6 + 1 + 1)) == intOf' (getD' undef (rels ys) (0 + (↑k : Int).toNat * 6 + 1 + 1)) && (intOf' (getD' undef (rels xs) (0 + (↑k : Int).toNat * 6 + 1 + 1 + 1)) == intOf' (getD' undef (rels ys) (0 + (↑k : Int).toNat * 6 + 1 + 1 + 1)) && (intOf' (getD' undef (rels xs) (0 + (↑k : Int).toNat * 6 + 1 + 1 + 1 + 1)) == intOf' (getD' undef (rels ys) (0 + (↑k : Int).toNat * 6 + 1 + 1 + 1 + 1)) && (intOf' (getD' undef (rels xs) (0 + (↑k : Int).toNat * 6 + 1 + 1 + 1 + 1 + 1)) == intOf' (getD' undef (rels ys) (0 + (↑k : Int).toNat * 6 + 1 + 1 + 1 + 1 + 1)) && true)))))),.int .i64 (IntKind.i64.wrap ((↑k : Int) + (1 : Int))),unk,unk,unk,unk,unk,unk]],s:={ n:=66,h:=[(64,⟨false,some (0,0),rels xs,none⟩),(65,⟨false,some (0,0),rels ys,none⟩)],lo:=[],esc:=0,T:=[],k:=2,O:=(bif hasN (0 + (↑k : Int).toNat * 6 + 6) (rels ys) && isLikeL [Value.int .u32 0,.bool false,.int .u32 0,.int .u32 0,.int .u16 0,.int .u16 0] (rels ys) (0 + (↑k : Int).toNat * 6) then bif decide ((0 : Int) ≤ (↑k : Int)) && decide ((↑k : Int) < (↑ys.length : Int)) then bif hasN (0 + (↑k : Int).toNat * 6 + 6) (rels xs) && isLikeL [Value.int .u32 0,.bool false,.int .u32 0,.int .u32 0,.int .u16 0,.int .u16 0] (rels xs) (0 + (↑k : Int).toNat * 6) then bif decide ((0 : Int) ≤ (↑k : Int)) && decide ((↑k : Int) < (↑xs.length : Int)) then True ∧ decide ((↑k : Int) < (↑xs.length : Int)) = true else False else False else False else False) ∧ (!(intOf' (getD' undef (rels xs) (0 + (↑k : Int).toNat * 6)) == intOf' (getD' undef (rels ys) (0 + (↑k : Int).toNat * 6)) && (boolOf' (getD' undef (rels xs) (0 + (↑k : Int).toNat * 6 + 1)) == boolOf' (getD' undef (rels ys) (0 + (↑k : Int).toNat * 6 + 1)) && (intOf' (getD' undef (rels xs) (0 + (↑k : Int).toNat * 6 + 1 + 1)) == intOf' (getD' undef (rels ys) (0 + (↑k : Int).toNat * 6 + 1 + 1)) && (intOf' (getD' undef (rels xs) (0 + (↑k : Int).toNat * 6 + 1 + 1 + 1)) == intOf' (getD' undef (rels ys) (0 + (↑k : Int).toNat * 6 + 1 + 1 + 1)) && (intOf' (getD' undef (rels xs) (0 + (↑k : Int).toNat * 6 + 1 + 1 + 1 + 1)) == intOf' (getD' undef (rels ys) (0 + (↑k : Int).toNat * 6 + 1 + 1 + 1 + 1)) && (intOf' (getD' undef (rels xs) (0 + (↑k : Int).toNat * 6 + 1 + 1 + 1 + 1 + 1)) == intOf' (getD' undef (rels ys) (0 + (↑k : Int).toNat * 6 + 1 + 1 + 1 + 1 + 1)) && true))))))) = false : St } : Fr }):=by kernel_rfl
theorem es_bad (xs : List Rl) (ys : List Rl) (k : Nat) : evC Try.prog (evF Try.prog noBase noLoop 100 3) (noLoop 33) 26 100 (loopOf Try.prog 33 0) (Sf.frT 26 (esI xs ys k) [(0,true),(1,true)]) = some (Exit.ret,{ e:=[[Value.slice (some ⟨64,0,none⟩) xs.length 9223372036854775872,.slice (some ⟨65,0,none⟩) ys.length 9223372036854775873,unk,unk,.bool false,.int .i64 (↑k),unk,unk,unk,unk,unk,unk,.int .i64 (↑xs.length),.int .i64 (↑k),.bool (decide ((↑k : Int) < (↑xs.length : Int))),.int .i64 (↑k)],[Value.slice (some ⟨64,0,none⟩) xs.length 9223372036854775872,.int .i64 (↑k),.pointer (some { block:=64,off:=0 + (↑k : Int).toNat * 6 }),.agg ⟨[.int .u32 (intOf' (getD' undef (rels xs) (0 + (↑k : Int).toNat * 6))),.bool (boolOf' (getD' undef (rels xs) (0 + (↑k : Int).toNat * 6 + 1))),.int .u32 (intOf' (getD' undef (rels xs) (0 + (↑k : Int).toNat * 6 + 1 + 1))),.int .u32 (intOf' (getD' undef (rels xs) (0 + (↑k : Int).toNat * 6 + 1 + 1 + 1))),.int .u16 (intOf' (getD' undef (rels xs) (0 + (↑k : Int).toNat * 6 + 1 + 1 + 1 + 1))),.int .u16 (intOf' (getD' undef (rels xs) (0 + (↑k : Int).toNat * 6 + 1 + 1 + 1 + 1 + 1)))]⟩,.slice (some ⟨65,0,none⟩) ys.length 9223372036854775873,.int .i64 (↑k),.pointer (some { block:=65,off:=0 + (↑k : Int).toNat * 6 }),.agg ⟨[.int .u32 (intOf' (getD' undef (rels ys) (0 + (↑k : Int).toNat * 6))),.bool (boolOf' (getD' undef (rels ys) (0 + (↑k : Int).toNat * 6 + 1))),.int .u32 (intOf' (getD' undef (rels ys) (0 + (↑k : Int).toNat * 6 + 1 + 1))),.int .u32 (intOf' (getD' undef (rels ys) (0 + (↑k : Int).toNat * 6 + 1 + 1 + 1))),.int .u16 (intOf' (getD' undef (rels ys) (0 + (↑k : Int).toNat * 6 + 1 + 1 + 1 + 1))),.int .u16 (intOf' (getD' undef (rels ys) (0 + (↑k : Int).toNat * 6 + 1 + 1 + 1 + 1 + 1)))]⟩,.bool !(intOf' (getD' undef (rels xs) (0 + (↑k : Int).toNat * 6)) == intOf' (getD' undef (rels ys) (0 + (↑k : Int).toNat * 6)) && (boolOf' (getD' undef (rels xs) (0 + (↑k : Int).toNat * 6 + 1)) == boolOf' (getD' undef (rels ys) (0 + (↑k : Int).toNat * 6 + 1)) && (intOf' (getD' undef (rels xs) (0 + (↑k : Int).toNat * 6 + 1 + 1)) == intOf' (getD' undef (rels ys) (0 + (↑k : Int).toNat * 6 + 1 + 1)) && (intOf' (getD' undef (rels xs) (0 + (↑k : Int).toNat * 6 + 1 + 1 + 1)) == intOf' (getD' undef (rels ys) (0 + (↑k : Int).toNat * 6 + 1 + 1 + 1)) && (intOf' (getD' undef (rels xs) (0 + (↑k : Int).toNat * 6 + 1 + 1 + 1 + 1)) == intOf' (getD' undef (rels ys) (0 + (↑k : Int).toNat * 6 + 1 + 1 + 1 + 1)) && (intOf' (getD' undef (rels xs) (0 + (↑k : Int).toNat * 6 + 1 + 1 + 1 + 1 + 1)) == intOf' (getD' undef (rels ys) (0 + (↑k : Int).toNat * 6 + 1 + 1 + 1 + 1 + 1)) && true)))))),unk,unk,unk,unk,unk,unk,unk]],s:={ n:=66,h:=[(64,⟨false,some (0,0),rels xs,none⟩),(65,⟨false,some (0,0),rels ys,none⟩)],lo:=[],esc:=0,T:=[],k:=2,O:=(bif hasN (0 + (↑k : Int).toNat * 6 + 6) (rels ys) && isLikeL [Value.int .u32 0,.bool false,.int .u32 0,.int .u32 0,.int .u16 0,.int .u16 0] (rels ys) (0 + (↑k : Int).toNat * 6) then bif decide ((0 : Int) ≤ (↑k : Int)) && decide ((↑k : Int) < (↑ys.length : Int)) then bif hasN (0 + (↑k : Int).toNat * 6 + 6) (rels xs) && isLikeL [Value.int .u32 0,.bool false,.int .u32 0,.int .u32 0,.int .u16 0,.int .u16 0] (rels xs) (0 + (↑k : Int).toNat * 6) then bif decide ((0 : Int) ≤ (↑k : Int)) && decide ((↑k : Int) < (↑xs.length : Int)) then True ∧ decide ((↑k : Int) < (↑xs.length : Int)) = true else False else False else False else False) ∧ (!(intOf' (getD' undef (rels xs) (0 + (↑k : Int).toNat * 6)) == intOf' (getD' undef (rels ys) (0 + (↑k : Int).toNat * 6)) && (boolOf' (getD' undef (rels xs) (0 + (↑k : Int).toNat * 6 + 1)) == boolOf' (getD' undef (rels ys) (0 + (↑k : Int).toNat * 6 + 1)) && (intOf' (getD' undef (rels xs) (0 + (↑k : Int).toNat * 6 + 1 + 1)) == intOf' (getD' undef (rels ys) (0 + (↑k : Int).toNat * 6 + 1 + 1)) && (intOf' (getD' undef (rels xs) (0 + (↑k : Int).toNat * 6 + 1 + 1 + 1)) == intOf' (getD' undef (rels ys) (0 + (↑k : Int).toNat * 6 + 1 + 1 + 1)) && (intOf' (getD' undef (rels xs) (0 + (↑k : Int).toNat * 6 + 1 + 1 + 1 + 1)) == intOf' (getD' undef (rels ys) (0 + (↑k : Int).toNat * 6 + 1 + 1 + 1 + 1)) && (intOf' (getD' undef (rels xs) (0 + (↑k : Int).toNat * 6 + 1 + 1 + 1 + 1 + 1)) == intOf' (getD' undef (rels ys) (0 + (↑k : Int).toNat * 6 + 1 + 1 + 1 + 1 + 1)) && true))))))) = true : St } : Fr }):=by kernel_rfl
theorem es_end (xs : List Rl) (ys : List Rl) (k : Nat) : evC Try.prog (evF Try.prog noBase noLoop 100 3) (noLoop 33) 26 100 (loopOf Try.prog 33 0) (Sf.frT 26 (esI xs ys k) [(0,false)]) = some (Exit.exit 0,{ e:=[[Value.slice (some ⟨64,0,none⟩) xs.length 9223372036854775872,.slice (some ⟨65,0,none⟩) ys.length 9223372036854775873,unk,unk,unk,unk,unk,unk,unk,unk,unk,unk,.int .i64 (↑xs.length),.int .i64 (↑k),.bool (decide ((↑k : Int) < (↑xs.length : Int))),unk],[unk,unk,unk,unk,unk,unk,unk,unk,unk,unk,unk,unk,unk,unk,unk,unk]],s:={ n:=66,h:=[(64,⟨false,some (0,0),rels xs,none⟩),(65,⟨false,some (0,0),rels ys,none⟩)],lo:=[],esc:=0,T:=[],k:=1,O:=True ∧ decide ((↑k : Int) < (↑xs.length : Int)) = false : St } : Fr }):=by kernel_rfl
theorem es_wf (xs ys : List Rl) (k : Nat) : (esI xs ys k).Wf :=
 ⟨by show NG ≤ 66; decide,Sf.Ok.mk' 3 ⟨⟨rfl,rfl,flat_bnd (rels_flat xs)⟩,⟨rfl,rfl,flat_bnd (rels_flat ys)⟩,trivial⟩ rfl (fun x hx => by
  have : (esI xs ys k).e.all (fun x => okV (fun l => Nat.blt l 66) 3 x.2) = true:=by kernel_rfl
  exact List.all_eq_true.1 this x hx)⟩
theorem esF_ok : esF.Ok (keeps 66 66 id (fun l => Nat.blt l 66)):=Sf.Ok.mk' 3 trivial rfl (fun x hx => by
  have : esF.e.all (fun x => okV (keeps 66 66 id (fun l => Nat.blt l 66)) 3 x.2) = true:=by kernel_rfl
  exact List.all_eq_true.1 this x hx)
theorem esN_ok : esN.Ok (keeps 66 66 id (fun l => Nat.blt l 66)):=Sf.Ok.mk' 3 trivial rfl (fun x hx => by cases hx)
theorem es_step_next (xs ys : List Rl) (k : Nat) (e : Sf) (hm : xs.length < 9000000000000000000) (hk : k < xs.length) (hl : ys.length = xs.length) (hv : rlB (rl0 xs k) (rl0 ys k) = true) (hn : e.n = 66) (he : e.Ok (keeps 66 66 id (fun l => Nat.blt l 66))) :
  ∃ g,evC Try.prog (evF Try.prog noBase noLoop 100 3) (noLoop 33) 26 100 (loopOf Try.prog 33 0) ((esI xs ys k).frT 26 [(0,true),(1,false)]) = some (.normal,g) ∧ g.s.O ∧ Sf.Leads 3 (fun l => Nat.blt l 66) id (esI xs ys k) g (esI xs ys (k + 1)) e:=by
 have a0 : intOf' (getD' undef (rels xs) (0 + k * 6)) = ((rl0 xs k).at_ : Int):=by rw [Nat.zero_add]; exact rels_0 (by omega)
 have a1 : boolOf' (getD' undef (rels xs) (0 + k * 6 + 1)) = (rl0 xs k).code:=by rw [Nat.zero_add]; exact rels_1 (by omega)
 have a2 : intOf' (getD' undef (rels xs) (0 + k * 6 + 1 + 1)) = ((rl0 xs k).off : Int):=by rw [Nat.zero_add]; exact rels_2 (by omega)
 have a3 : intOf' (getD' undef (rels xs) (0 + k * 6 + 1 + 1 + 1)) = ((rl0 xs k).size : Int):=by rw [Nat.zero_add]; exact rels_3 (by omega)
 have a4 : intOf' (getD' undef (rels xs) (0 + k * 6 + 1 + 1 + 1 + 1)) = ((rl0 xs k).perms : Int):=by rw [Nat.zero_add]; exact rels_4 (by omega)
 have a5 : intOf' (getD' undef (rels xs) (0 + k * 6 + 1 + 1 + 1 + 1 + 1)) = ((rl0 xs k).typ : Int):=by rw [Nat.zero_add]; exact rels_5 (by omega)
 have b0 : intOf' (getD' undef (rels ys) (0 + k * 6)) = ((rl0 ys k).at_ : Int):=by rw [Nat.zero_add]; exact rels_0 (by omega)
 have b1 : boolOf' (getD' undef (rels ys) (0 + k * 6 + 1)) = (rl0 ys k).code:=by rw [Nat.zero_add]; exact rels_1 (by omega)
 have b2 : intOf' (getD' undef (rels ys) (0 + k * 6 + 1 + 1)) = ((rl0 ys k).off : Int):=by rw [Nat.zero_add]; exact rels_2 (by omega)
 have b3 : intOf' (getD' undef (rels ys) (0 + k * 6 + 1 + 1 + 1)) = ((rl0 ys k).size : Int):=by rw [Nat.zero_add]; exact rels_3 (by omega)
 have b4 : intOf' (getD' undef (rels ys) (0 + k * 6 + 1 + 1 + 1 + 1)) = ((rl0 ys k).perms : Int):=by rw [Nat.zero_add]; exact rels_4 (by omega)
 have b5 : intOf' (getD' undef (rels ys) (0 + k * 6 + 1 + 1 + 1 + 1 + 1)) = ((rl0 ys k).typ : Int):=by rw [Nat.zero_add]; exact rels_5 (by omega)
 have g1 : hasN (0 + k * 6 + 6) (rels xs) = true:=by rw [rels_has]; simp; omega
 have g2 : isLikeL [Value.int IntKind.u32 (0 : Int),Value.bool false,Value.int IntKind.u32 (0 : Int),Value.int IntKind.u32 (0 : Int),Value.int IntKind.u16 (0 : Int),Value.int IntKind.u16 (0 : Int)] (rels xs) (0 + k * 6) = true:=by rw [Nat.zero_add]; exact rels_like (by omega) _ _ _ _ _ _
 have g3 : decide ((k : Int) < (xs.length : Int)) = true:=by simp; omega
 have h1 : hasN (0 + k * 6 + 6) (rels ys) = true:=by rw [rels_has]; simp; omega
 have h2 : isLikeL [Value.int IntKind.u32 (0 : Int),Value.bool false,Value.int IntKind.u32 (0 : Int),Value.int IntKind.u32 (0 : Int),Value.int IntKind.u16 (0 : Int),Value.int IntKind.u16 (0 : Int)] (rels ys) (0 + k * 6) = true:=by rw [Nat.zero_add]; exact rels_like (by omega) _ _ _ _ _ _
 have h3 : decide ((k : Int) < (ys.length : Int)) = true:=by simp; omega
 have z3 : decide ((0 : Int) ≤ (k : Int)) = true:=by simp
 unfold rlB at hv
 refine ⟨_,es_next xs ys k,?_,?_⟩
 ·simp only [rr, tt, Int.toNat_natCast,a0,a1,a2,a3,a4,a5,b0,b1,b2,b3,b4,b5,g1,g2,g3,h1,h2,h3,z3,hv,Bool.and_self,cond_true,Bool.not_true,and_self]
 ·refine ⟨fun _ _ => rfl,⟨⟨rfl,flat_all (rels_flat xs),rfl,rfl,rfl,trivial,(flat_map (rels_flat xs)).symm⟩,⟨rfl,flat_all (rels_flat ys),rfl,rfl,rfl,trivial,(flat_map (rels_flat ys)).symm⟩,trivial⟩,rfl,trivial,⟨⟨by kernel_rfl,by kernel_rfl⟩,⟨by kernel_rfl,by kernel_rfl⟩,⟨rfl,by kernel_rfl⟩,⟨rfl,?_⟩,trivial⟩,Nat.le_refl _,fun l hl => blt_no hl,?_,?_⟩
  ·refine Eq.trans (b:=Value.int .i64 (IntKind.i64.wrap ((k : Int) + 1))) (by kernel_rfl) ?_
   rw [cast_succ_i64 k (by omega)]; rfl
  ·rw [hn]; exact he
  ·intro x _ _; exact .inl rfl
theorem es_step_bad (xs ys : List Rl) (k : Nat) (hk : k < xs.length) (hl : ys.length = xs.length) (hv : rlB (rl0 xs k) (rl0 ys k) = false) :
  ∃ g,evC Try.prog (evF Try.prog noBase noLoop 100 3) (noLoop 33) 26 100 (loopOf Try.prog 33 0) ((esI xs ys k).frT 26 [(0,true),(1,true)]) = some (.ret,g) ∧ g.s.O ∧ Sf.Leads 3 (fun l => Nat.blt l 66) id (esI xs ys k) g esF esF:=by
 have a0 : intOf' (getD' undef (rels xs) (0 + k * 6)) = ((rl0 xs k).at_ : Int):=by rw [Nat.zero_add]; exact rels_0 (by omega)
 have a1 : boolOf' (getD' undef (rels xs) (0 + k * 6 + 1)) = (rl0 xs k).code:=by rw [Nat.zero_add]; exact rels_1 (by omega)
 have a2 : intOf' (getD' undef (rels xs) (0 + k * 6 + 1 + 1)) = ((rl0 xs k).off : Int):=by rw [Nat.zero_add]; exact rels_2 (by omega)
 have a3 : intOf' (getD' undef (rels xs) (0 + k * 6 + 1 + 1 + 1)) = ((rl0 xs k).size : Int):=by rw [Nat.zero_add]; exact rels_3 (by omega)
 have a4 : intOf' (getD' undef (rels xs) (0 + k * 6 + 1 + 1 + 1 + 1)) = ((rl0 xs k).perms : Int):=by rw [Nat.zero_add]; exact rels_4 (by omega)
 have a5 : intOf' (getD' undef (rels xs) (0 + k * 6 + 1 + 1 + 1 + 1 + 1)) = ((rl0 xs k).typ : Int):=by rw [Nat.zero_add]; exact rels_5 (by omega)
 have b0 : intOf' (getD' undef (rels ys) (0 + k * 6)) = ((rl0 ys k).at_ : Int):=by rw [Nat.zero_add]; exact rels_0 (by omega)
 have b1 : boolOf' (getD' undef (rels ys) (0 + k * 6 + 1)) = (rl0 ys k).code:=by rw [Nat.zero_add]; exact rels_1 (by omega)
 have b2 : intOf' (getD' undef (rels ys) (0 + k * 6 + 1 + 1)) = ((rl0 ys k).off : Int):=by rw [Nat.zero_add]; exact rels_2 (by omega)
 have b3 : intOf' (getD' undef (rels ys) (0 + k * 6 + 1 + 1 + 1)) = ((rl0 ys k).size : Int):=by rw [Nat.zero_add]; exact rels_3 (by omega)
 have b4 : intOf' (getD' undef (rels ys) (0 + k * 6 + 1 + 1 + 1 + 1)) = ((rl0 ys k).perms : Int):=by rw [Nat.zero_add]; exact rels_4 (by omega)
 have b5 : intOf' (getD' undef (rels ys) (0 + k * 6 + 1 + 1 + 1 + 1 + 1)) = ((rl0 ys k).typ : Int):=by rw [Nat.zero_add]; exact rels_5 (by omega)
 have g1 : hasN (0 + k * 6 + 6) (rels xs) = true:=by rw [rels_has]; simp; omega
 have g2 : isLikeL [Value.int IntKind.u32 (0 : Int),Value.bool false,Value.int IntKind.u32 (0 : Int),Value.int IntKind.u32 (0 : Int),Value.int IntKind.u16 (0 : Int),Value.int IntKind.u16 (0 : Int)] (rels xs) (0 + k * 6) = true:=by rw [Nat.zero_add]; exact rels_like (by omega) _ _ _ _ _ _
 have g3 : decide ((k : Int) < (xs.length : Int)) = true:=by simp; omega
 have h1 : hasN (0 + k * 6 + 6) (rels ys) = true:=by rw [rels_has]; simp; omega
 have h2 : isLikeL [Value.int IntKind.u32 (0 : Int),Value.bool false,Value.int IntKind.u32 (0 : Int),Value.int IntKind.u32 (0 : Int),Value.int IntKind.u16 (0 : Int),Value.int IntKind.u16 (0 : Int)] (rels ys) (0 + k * 6) = true:=by rw [Nat.zero_add]; exact rels_like (by omega) _ _ _ _ _ _
 have h3 : decide ((k : Int) < (ys.length : Int)) = true:=by simp; omega
 have z3 : decide ((0 : Int) ≤ (k : Int)) = true:=by simp
 unfold rlB at hv
 refine ⟨_,es_bad xs ys k,?_,?_⟩
 ·simp only [rr, tt, Int.toNat_natCast,a0,a1,a2,a3,a4,a5,b0,b1,b2,b3,b4,b5,g1,g2,g3,h1,h2,h3,z3,hv,Bool.and_self,cond_true,Bool.not_false,and_self]
 ·exact ⟨fun _ _ => rfl,trivial,rfl,trivial,⟨⟨by kernel_rfl,by kernel_rfl⟩,trivial⟩,Nat.le_refl _,fun l hl => blt_no hl,esF_ok,fun x hx => by cases hx⟩
theorem es_step_end (xs ys : List Rl) (k : Nat) (hk : k = xs.length) :
  ∃ g,evC Try.prog (evF Try.prog noBase noLoop 100 3) (noLoop 33) 26 100 (loopOf Try.prog 33 0) ((esI xs ys k).frT 26 [(0,false)]) = some (.exit 0,g) ∧ g.s.O ∧ Sf.Leads 3 (fun l => Nat.blt l 66) id (esI xs ys k) g esN esN:=by
 refine ⟨_,es_end xs ys k,?_,?_⟩
 ·subst hk; simp
 ·exact ⟨fun _ _ => rfl,trivial,rfl,trivial,trivial,Nat.le_refl _,fun l hl => blt_no hl,esN_ok,fun x hx => by cases hx⟩
theorem es_found (xs ys : List Rl) (j : Nat) (hm : xs.length < 9000000000000000000) (hl : ys.length = xs.length) (hj : j < xs.length) (hv : rlB (rl0 xs j) (rl0 ys j) = false) (hn : ∀ i,i < j → rlB (rl0 xs i) (rl0 ys i) = true) :
  ∀ x : { k : Nat // k ≤ j },LoopOk Try.prog 26 (loopOf Try.prog 33 0) ((esI xs ys x.1).fr 26) .ret (esF.fr 26):=by
 refine loop_ok (L:=100) (run_ok (L:=100) i_names (noBase_ok _) (noLoop_ok _) 3) (noLoop_any _ _ 33) (fun _ h => h) (X:={ k : Nat // k ≤ j }) (fun x => esI xs ys x.1) (fun _ => esF) (fun _ => .ret) (fun x => j - x.1) (fun x => es_wf xs ys x.1) ?_
 rintro ⟨k,hk⟩
 by_cases h : k = j
 ·subst h
  obtain ⟨g,h1,h2,h3⟩:=es_step_bad xs ys k hj hl hv
  exact ⟨_,.ret,g,3,_,_,h1,h2,.inr ⟨by simp,rfl,h3⟩⟩
 ·obtain ⟨g,h1,h2,h3⟩:=es_step_next xs ys k esF hm (by omega) hl (hn k (by omega)) rfl esF_ok
  exact ⟨_,.normal,g,3,_,_,h1,h2,.inl ⟨rfl,⟨k + 1,by omega⟩,by show j - (k + 1) < j - k; omega,rfl,rfl,h3⟩⟩
theorem es_none (xs ys : List Rl) (hm : xs.length < 9000000000000000000) (hl : ys.length = xs.length) (hn : ∀ i,i < xs.length → rlB (rl0 xs i) (rl0 ys i) = true) :
  ∀ x : { k : Nat // k ≤ xs.length },LoopOk Try.prog 26 (loopOf Try.prog 33 0) ((esI xs ys x.1).fr 26) (.exit 0) (esN.fr 26):=by
 refine loop_ok (L:=100) (run_ok (L:=100) i_names (noBase_ok _) (noLoop_ok _) 3) (noLoop_any _ _ 33) (fun _ h => h) (X:={ k : Nat // k ≤ xs.length }) (fun x => esI xs ys x.1) (fun _ => esN) (fun _ => .exit 0) (fun x => xs.length - x.1) (fun x => es_wf xs ys x.1) ?_
 rintro ⟨k,hk⟩
 by_cases h : k < xs.length
 ·obtain ⟨g,h1,h2,h3⟩:=es_step_next xs ys k esN hm h hl (hn k h) rfl esN_ok
  exact ⟨_,.normal,g,3,_,_,h1,h2,.inl ⟨rfl,⟨k + 1,by omega⟩,by show xs.length - (k + 1) < xs.length - k; omega,rfl,rfl,h3⟩⟩
 ·obtain ⟨g,h1,h2,h3⟩:=es_step_end xs ys k (by omega)
  exact ⟨_,.exit 0,g,3,_,_,h1,h2,.inr ⟨by simp,rfl,h3⟩⟩
def esEntF (xs ys : List Rl) (j : Nat) (hm : xs.length < 9000000000000000000) (hl : ys.length = xs.length) (hj : j < xs.length) (hv : rlB (rl0 xs j) (rl0 ys j) = false) (hn : ∀ i,i < j → rlB (rl0 xs i) (rl0 ys i) = true) : Ent Try.prog :=
 entC Try.prog 33 0 26 (esI xs ys 0) .ret esF (by kernel_rfl) (by kernel_rfl) (es_found xs ys j hm hl hj hv hn ⟨0,Nat.zero_le _⟩)
def esEntN (xs ys : List Rl) (hm : xs.length < 9000000000000000000) (hl : ys.length = xs.length) (hn : ∀ i,i < xs.length → rlB (rl0 xs i) (rl0 ys i) = true) : Ent Try.prog :=
 entC Try.prog 33 0 26 (esI xs ys 0) (.exit 0) esN (by kernel_rfl) (by kernel_rfl) (es_none xs ys hm hl hn ⟨0,Nat.zero_le _⟩)
end Go.Proofs.Ytdljpnebpoaeiaa
namespace Go.Proofs.Ytdljpnebpoaeiaa
open Go.RowKit
open Sy
theorem esf_len (xs ys : List Rl) : evF Try.prog noBase noLoop 100 10 33 [Value.slice (some ⟨64,0,none⟩) xs.length (big+64),.slice (some ⟨65,0,none⟩) ys.length (big+65)] ⟨66,esH xs ys,[],0,[(0,true)],0,True⟩ = some (Value.bool false,{ n:=66,h:=[(64,⟨false,some (0,0),rels xs,none⟩),(65,⟨false,some (0,0),rels ys,none⟩)],lo:=[],esc:=0,T:=[],k:=1,O:=True∧((↑xs.length:Int) != (↑ys.length:Int)) = true : St }):=by kernel_rfl
theorem esf_bad (xs ys : List Rl) (j : Nat) (hm : xs.length < 9000000000000000000) (hl : ys.length = xs.length) (hj : j < xs.length) (hv : rlB (rl0 xs j) (rl0 ys j) = false) (hn : ∀ (i : Nat),i < j → rlB (rl0 xs i) (rl0 ys i) = true) : evF Try.prog noBase (lpOf [esEntF xs ys j hm hl hj hv hn]) 100 10 33 [Value.slice (some ⟨64,0,none⟩) xs.length (big+64),.slice (some ⟨65,0,none⟩) ys.length (big+65)] ⟨66,esH xs ys,[],0,[(0,false)],0,True⟩ = some (Value.bool false,{ n:=66,h:=[(64,⟨false,some (0,0),rels xs,none⟩),(65,⟨false,some (0,0),rels ys,none⟩)],lo:=[],esc:=0,T:=[],k:=1,O:=(True∧((↑xs.length:Int) != (↑ys.length:Int)) = false)∧(rr (Value.slice (some ⟨64,0,none⟩) xs.length 9223372036854775872)∧rr (Value.slice (some ⟨65,0,none⟩) ys.length 9223372036854775873)∧rr (Value.int .i64 (↑xs.length))∧rr (Value.int .i64 0)∧True)∧((tt∧tt∧True∧rr (rels xs))∧(tt∧tt∧True∧rr (rels ys))∧True)∧True∧True : St }):=by kernel_rfl
theorem esf_ok (xs ys : List Rl) (hm : xs.length < 9000000000000000000) (hl : ys.length = xs.length) (hn : ∀ (i : Nat),i < xs.length → rlB (rl0 xs i) (rl0 ys i) = true) : evF Try.prog noBase (lpOf [esEntN xs ys hm hl hn]) 100 10 33 [Value.slice (some ⟨64,0,none⟩) xs.length (big+64),.slice (some ⟨65,0,none⟩) ys.length (big+65)] ⟨66,esH xs ys,[],0,[(0,false)],0,True⟩ = some (Value.bool true,{ n:=66,h:=[(64,⟨false,some (0,0),rels xs,none⟩),(65,⟨false,some (0,0),rels ys,none⟩)],lo:=[],esc:=0,T:=[],k:=1,O:=(True∧((↑xs.length:Int) != (↑ys.length:Int)) = false)∧(rr (Value.slice (some ⟨64,0,none⟩) xs.length 9223372036854775872)∧rr (Value.slice (some ⟨65,0,none⟩) ys.length 9223372036854775873)∧rr (Value.int .i64 (↑xs.length))∧rr (Value.int .i64 0)∧True)∧((tt∧tt∧True∧rr (rels xs))∧(tt∧tt∧True∧rr (rels ys))∧True)∧True∧True : St }):=by kernel_rfl
def esC (xs ys : List Rl) : Con:=⟨[.slice (some ⟨64,0,none⟩) xs.length (big + 64),.slice (some ⟨65,0,none⟩) ys.length (big + 65)],66,esH xs ys,[],.bool (relsB xs ys),66,[],[]⟩
theorem relsB_true (xs ys : List Rl) (hl : ys.length = xs.length) (h : ∀ i,i < xs.length → rlB (rl0 xs i) (rl0 ys i) = true) : relsB xs ys = true:=by
 unfold relsB
 rw [Bool.and_eq_true,decide_eq_true_eq,List.all_eq_true]
 exact ⟨hl.symm,fun i hi => h i (List.mem_range.1 hi)⟩
theorem relsB_false (xs ys : List Rl) (h : ¬ ∀ i,i < xs.length → rlB (rl0 xs i) (rl0 ys i) = true) : relsB xs ys = false:=by
 cases hb : relsB xs ys
 ·rfl
 ·unfold relsB at hb
  rw [Bool.and_eq_true,List.all_eq_true] at hb
  exact absurd (fun i hi => hb.2 i (List.mem_range.2 hi)) h
theorem relsB_len (xs ys : List Rl) (h : xs.length ≠ ys.length) : relsB xs ys = false:=by
 unfold relsB
 rw [show decide (xs.length = ys.length) = false from decide_eq_false h,Bool.false_and]
theorem es_wfC (xs ys : List Rl) (v : Bool) : (⟨[.slice (some ⟨64,0,none⟩) xs.length (big + 64),.slice (some ⟨65,0,none⟩) ys.length (big + 65)],66,esH xs ys,[],.bool v,66,[],[]⟩ : Con).Wf 3 :=
 ⟨by show NG ≤ 66; decide,Nat.le_refl _,⟨⟨rfl,rfl,flat_bnd (rels_flat xs)⟩,⟨rfl,rfl,flat_bnd (rels_flat ys)⟩,trivial⟩,rfl,rfl,rfl,by kernel_rfl,rfl,fun x hx => by cases hx⟩
theorem es_any {lp : FuncId → LoopK} (hlp : SoundCall Try.prog (evF Try.prog noBase lp 100 10)) {xs ys : List Rl} {T : List (Nat × Bool)} {v v' : Bool} {s' : St}
  (h : evF Try.prog noBase lp 100 10 33 [.slice (some ⟨64,0,none⟩) xs.length (big + 64),.slice (some ⟨65,0,none⟩) ys.length (big + 65)] ⟨66,esH xs ys,[],0,T,0,True⟩ = some (.bool v,s')) (hv : v = v') (hO : s'.O) :
  ConOk Try.prog 33 3 ⟨[.slice (some ⟨64,0,none⟩) xs.length (big + 64),.slice (some ⟨65,0,none⟩) ys.length (big + 65)],66,esH xs ys,[],.bool v',66,[],[]⟩:=by
 subst hv
 refine conOk_run (T:=T) hlp (es_wfC xs ys v) h hO (p:=fun l => Nat.blt l 66) (σ:=id) ?_
 exact ⟨fun _ _ => rfl,trivial,rfl,trivial,⟨rfl,rfl⟩,rfl,trivial,rfl,bnd_flat0 _ rfl,fun x hx => by cases hx⟩
theorem es_con (xs ys : List Rl) (hm : xs.length < 9000000000000000000) : ConOk Try.prog 33 3 (esC xs ys):=by
 by_cases hl : ys.length = xs.length
 ·have hl' : (((xs.length : Nat) : Int) != ((ys.length : Nat) : Int)) = false:=by rw [hl]; simp
  by_cases hn : ∀ i,i < xs.length → rlB (rl0 xs i) (rl0 ys i) = true
  ·have hh:=esf_ok xs ys hm hl hn
   refine es_any (run_ok i_names (noBase_ok _) (lpOf_ok _) 10) hh (relsB_true xs ys hl hn).symm ?_
   simp only [rr, tt, hl']
   repeat' (with_reducible apply And.intro)
   all_goals first | with_reducible trivial | with_reducible rfl
  ·have hf : ((List.range xs.length).any fun i => !rlB (rl0 xs i) (rl0 ys i)) = true:=by
    rw [List.any_eq_true]
    obtain ⟨i,hi⟩:=Classical.not_forall.1 hn
    obtain ⟨h1,h2⟩:=Classical.not_imp.1 hi
    exact ⟨i,List.mem_range.2 h1,by simpa using h2⟩
   obtain ⟨j,hj,hv,hb⟩:=first_of _ _ hf
   have hh:=esf_bad xs ys j hm hl hj (by simpa using hv) (fun i hij => by have:=hb i hij; simpa using this)
   refine es_any (run_ok i_names (noBase_ok _) (lpOf_ok _) 10) hh (relsB_false xs ys hn).symm ?_
   simp only [rr, tt, hl']
   repeat' (with_reducible apply And.intro)
   all_goals first | with_reducible trivial | with_reducible rfl
 ·have hh:=esf_len xs ys
  have hl' : (((xs.length : Nat) : Int) != ((ys.length : Nat) : Int)) = true:=by rw [bne_iff_ne]; omega
  refine es_any (run_ok i_names (noBase_ok _) (noLoop_ok _) 10) hh (relsB_len xs ys (by omega)).symm ?_
  simp only [rr, tt, hl']
  repeat' (with_reducible apply And.intro)
  all_goals first | with_reducible trivial | with_reducible rfl
end Go.Proofs.Ytdljpnebpoaeiaa
namespace Go.Proofs.Ytdljpnebpoaeiaa
open Go.RowKit
open Sy
def selEq (cs cs2 ss ss2 : List Nat) (rs rs2 : List Rl) : SelC:=fun f args _ =>
 match args with
 | [.slice (some a) _ _,.slice (some b) _ _] =>
  bif Nat.beq f 32 then (bif Nat.beq a.block 64 then some (eqC cs cs2,[a.block,b.block],cs.length < 9000000000000000000) else some (eqC ss ss2,[a.block,b.block],ss.length < 9000000000000000000))
  else bif Nat.beq f 33 then some (esC rs rs2,[a.block,b.block],rs.length < 9000000000000000000) else none
 | _ => none
theorem selEq_ok (cs cs2 ss ss2 : List Nat) (rs rs2 : List Rl) : SelOk Try.prog 3 (selEq cs cs2 ss ss2 rs rs2):=by
 intro f args s c ρ q h hq
 unfold selEq at h
 split at h
 ·rename_i a _ _ b _ _
  cases h1 : Nat.beq f 32 <;> rw [h1] at h
  ·simp only [rr, tt, cond_false] at h
   obtain ⟨h2,h⟩:=bif_some h
   have h2:=Nat.eq_of_beq_eq_true h2
   subst h2
   cases h
   exact es_con rs rs2 hq
  ·have h1:=Nat.eq_of_beq_eq_true h1
   subst h1
   simp only [rr, tt, cond_true] at h
   cases h3 : Nat.beq a.block 64 <;> rw [h3] at h
   ·cases h
    exact eq_con ss ss2 hq
   ·cases h
    exact eq_con cs cs2 hq
 ·cases h
def im2V (pages stack types : Int) (nc nr ns : Nat) (data : List UInt8) (a b c : Nat) : Value :=
 .agg ⟨[.int .i64 pages,.int .i64 stack,.int .i64 types,.slice (some ⟨a,0,none⟩) nc (big + a),.string ⟨⟨data⟩⟩,.slice (some ⟨b,0,none⟩) nr (big + b),.slice (some ⟨c,0,none⟩) ns (big + c)]⟩
def smH (cs cs2 ss ss2 : List Nat) (rs rs2 : List Rl) : Sy.Heap:=[(64,⟨false,some (0,0),u32s cs,none⟩),(65,⟨false,some (0,0),rels rs,none⟩),(66,⟨false,some (0,0),u32s ss,none⟩),(67,⟨false,some (0,0),u32s cs2,none⟩),(68,⟨false,some (0,0),rels rs2,none⟩),(69,⟨false,some (0,0),u32s ss2,none⟩)]
theorem sm_p (p1 s1 t1 p2 s2 t2 : Int) (d1 d2 : List UInt8) (cs cs2 ss ss2 : List Nat) (rs rs2 : List Rl) : evF Try.prog (baseR 3 (selEq cs cs2 ss ss2 rs rs2) noBase) noLoop 100 10 16 [im2V p1 s1 t1 cs.length rs.length ss.length d1 64 65 66,im2V p2 s2 t2 cs2.length rs2.length ss2.length d2 67 68 69] ⟨70,smH cs cs2 ss ss2 rs rs2,[],0,[(0,false),(1,false),(2,false),(3,false),(4,false),(5,false),(6,false),(7,false),(8,false),(9,false),(10,false),(11,false),(12,false),(13,false),(14,false),(15,false),(16,false),(17,false),(18,false),(19,false),(20,false),(21,false),(22,false),(23,false)],0,True⟩ = some (Value.bool false,{ n:=76,h:=[(64,⟨false,some (0,0),u32s cs,none⟩),(65,⟨false,some (0,0),rels rs,none⟩),(66,⟨false,some (0,0),u32s ss,none⟩),(67,⟨false,some (0,0),u32s cs2,none⟩),(68,⟨false,some (0,0),rels rs2,none⟩),(69,⟨false,some (0,0),u32s ss2,none⟩)],lo:=[],esc:=0,T:=[],k:=24,O:=(((((((((((((((((((((((True∧(p1 == p2 && (s1 == s2 && (t1 == t2 && true))) = false)∧(p1 == p2 && (s1 == s2 && (t1 == t2 && true))) = false)∧(p1 == p2 && (s1 == s2 && (t1 == t2 && true))) = false)∧(p1 == p2 && (s1 == s2 && (t1 == t2 && true))) = false)∧(p1 == p2 && (s1 == s2 && (t1 == t2 && true))) = false)∧(p1 == p2 && (s1 == s2 && (t1 == t2 && true))) = false)∧rr false)∧rr false)∧rr false)∧rr false)∧rr false)∧rr false)∧rr false)∧rr false)∧rr false)∧rr false)∧rr false)∧rr false)∧rr false)∧rr false)∧rr false)∧rr false)∧rr false)∧false = false : St }):=by kernel_rfl
theorem sm_d (p1 s1 t1 p2 s2 t2 : Int) (d1 d2 : List UInt8) (cs cs2 ss ss2 : List Nat) (rs rs2 : List Rl) : evF Try.prog (baseR 3 (selEq cs cs2 ss ss2 rs rs2) noBase) noLoop 100 10 16 [im2V p1 s1 t1 cs.length rs.length ss.length d1 64 65 66,im2V p2 s2 t2 cs2.length rs2.length ss2.length d2 67 68 69] ⟨70,smH cs cs2 ss ss2 rs rs2,[],0,[(0,true),(1,true),(2,true),(3,true),(4,true),(5,true),(6,false),(7,false),(8,false),(9,false),(10,false),(11,false),(12,false),(13,false),(14,false),(15,false),(16,false),(17,false),(18,false),(19,false),(20,false),(21,false),(22,false),(23,false)],0,True⟩ = some (Value.bool false,{ n:=76,h:=[(64,⟨false,some (0,0),u32s cs,none⟩),(65,⟨false,some (0,0),rels rs,none⟩),(66,⟨false,some (0,0),u32s ss,none⟩),(67,⟨false,some (0,0),u32s cs2,none⟩),(68,⟨false,some (0,0),rels rs2,none⟩),(69,⟨false,some (0,0),u32s ss2,none⟩)],lo:=[],esc:=0,T:=[],k:=24,O:=(((((((((((((((((((((((True∧(p1 == p2 && (s1 == s2 && (t1 == t2 && true))) = true)∧(p1 == p2 && (s1 == s2 && (t1 == t2 && true))) = true)∧(p1 == p2 && (s1 == s2 && (t1 == t2 && true))) = true)∧(p1 == p2 && (s1 == s2 && (t1 == t2 && true))) = true)∧(p1 == p2 && (s1 == s2 && (t1 == t2 && true))) = true)∧(p1 == p2 && (s1 == s2 && (t1 == t2 && true))) = true)∧bytesEq d1 d2 = false)∧bytesEq d1 d2 = false)∧bytesEq d1 d2 = false)∧bytesEq d1 d2 = false)∧bytesEq d1 d2 = false)∧bytesEq d1 d2 = false)∧rr false)∧rr false)∧rr false)∧rr false)∧rr false)∧rr false)∧rr false)∧rr false)∧rr false)∧rr false)∧rr false)∧false = false : St }):=by kernel_rfl
theorem sm_c (p1 s1 t1 p2 s2 t2 : Int) (d1 d2 : List UInt8) (cs cs2 ss ss2 : List Nat) (rs rs2 : List Rl) : evF Try.prog (baseR 3 (selEq cs cs2 ss ss2 rs rs2) noBase) noLoop 100 10 16 [im2V p1 s1 t1 cs.length rs.length ss.length d1 64 65 66,im2V p2 s2 t2 cs2.length rs2.length ss2.length d2 67 68 69] ⟨70,smH cs cs2 ss ss2 rs rs2,[],0,[(0,true),(1,true),(2,true),(3,true),(4,true),(5,true),(6,true),(7,true),(8,true),(9,true),(10,true),(11,true),(12,false),(13,false),(14,false),(15,false),(16,false),(17,false),(18,false),(19,false),(20,false),(21,false),(22,false),(23,false)],0,True⟩ = some (Value.bool false,{ n:=76,h:=[(64,⟨false,some (0,0),u32s cs,none⟩),(65,⟨false,some (0,0),rels rs,none⟩),(66,⟨false,some (0,0),u32s ss,none⟩),(67,⟨false,some (0,0),u32s cs2,none⟩),(68,⟨false,some (0,0),rels rs2,none⟩),(69,⟨false,some (0,0),u32s ss2,none⟩)],lo:=[],esc:=0,T:=[],k:=24,O:=((((((((((((((((((((((((True∧(p1 == p2 && (s1 == s2 && (t1 == t2 && true))) = true)∧(p1 == p2 && (s1 == s2 && (t1 == t2 && true))) = true)∧(p1 == p2 && (s1 == s2 && (t1 == t2 && true))) = true)∧(p1 == p2 && (s1 == s2 && (t1 == t2 && true))) = true)∧(p1 == p2 && (s1 == s2 && (t1 == t2 && true))) = true)∧(p1 == p2 && (s1 == s2 && (t1 == t2 && true))) = true)∧bytesEq d1 d2 = true)∧bytesEq d1 d2 = true)∧bytesEq d1 d2 = true)∧bytesEq d1 d2 = true)∧bytesEq d1 d2 = true)∧cs.length < 9000000000000000000∧(rr (Value.slice (some ⟨64,0,none⟩) cs.length 9223372036854775872)∧rr (Value.slice (some ⟨67,0,none⟩) cs2.length 9223372036854775875)∧True)∧(((tt∧(u32s cs).all (okV (fun l => l.blt 66) 3) = true∧tt∧tt∧tt∧True∧u32s cs = List.map (rnV (lift 66 76 [64,67]) 3) (u32s cs))∧(tt∧(u32s cs2).all (okV (fun l => l.blt 66) 3) = true∧tt∧tt∧tt∧True∧u32s cs2 = List.map (rnV (lift 66 76 [64,67]) 3) (u32s cs2))∧True)∧tt∧tt)∧True)∧bytesEq d1 d2 = true)∧decide (cs = cs2) = false)∧decide (cs = cs2) = false)∧decide (cs = cs2) = false)∧decide (cs = cs2) = false)∧decide (cs = cs2) = false)∧decide (cs = cs2) = false)∧rr false)∧rr false)∧rr false)∧rr false)∧rr false)∧false = false : St }):=by kernel_rfl
theorem sm_r (p1 s1 t1 p2 s2 t2 : Int) (d1 d2 : List UInt8) (cs cs2 ss ss2 : List Nat) (rs rs2 : List Rl) : evF Try.prog (baseR 3 (selEq cs cs2 ss ss2 rs rs2) noBase) noLoop 100 10 16 [im2V p1 s1 t1 cs.length rs.length ss.length d1 64 65 66,im2V p2 s2 t2 cs2.length rs2.length ss2.length d2 67 68 69] ⟨70,smH cs cs2 ss ss2 rs rs2,[],0,[(0,true),(1,true),(2,true),(3,true),(4,true),(5,true),(6,true),(7,true),(8,true),(9,true),(10,true),(11,true),(12,true),(13,true),(14,true),(15,true),(16,true),(17,true),(18,false),(19,false),(20,false),(21,false),(22,false),(23,false)],0,True⟩ = some (Value.bool false,{ n:=76,h:=[(64,⟨false,some (0,0),u32s cs,none⟩),(65,⟨false,some (0,0),rels rs,none⟩),(66,⟨false,some (0,0),u32s ss,none⟩),(67,⟨false,some (0,0),u32s cs2,none⟩),(68,⟨false,some (0,0),rels rs2,none⟩),(69,⟨false,some (0,0),u32s ss2,none⟩)],lo:=[],esc:=0,T:=[],k:=24,O:=(((((((((((((((((((((((((True∧(p1 == p2 && (s1 == s2 && (t1 == t2 && true))) = true)∧(p1 == p2 && (s1 == s2 && (t1 == t2 && true))) = true)∧(p1 == p2 && (s1 == s2 && (t1 == t2 && true))) = true)∧(p1 == p2 && (s1 == s2 && (t1 == t2 && true))) = true)∧(p1 == p2 && (s1 == s2 && (t1 == t2 && true))) = true)∧(p1 == p2 && (s1 == s2 && (t1 == t2 && true))) = true)∧bytesEq d1 d2 = true)∧bytesEq d1 d2 = true)∧bytesEq d1 d2 = true)∧bytesEq d1 d2 = true)∧bytesEq d1 d2 = true)∧cs.length < 9000000000000000000∧(rr (Value.slice (some ⟨64,0,none⟩) cs.length 9223372036854775872)∧rr (Value.slice (some ⟨67,0,none⟩) cs2.length 9223372036854775875)∧True)∧(((tt∧(u32s cs).all (okV (fun l => l.blt 66) 3) = true∧tt∧tt∧tt∧True∧u32s cs = List.map (rnV (lift 66 76 [64,67]) 3) (u32s cs))∧(tt∧(u32s cs2).all (okV (fun l => l.blt 66) 3) = true∧tt∧tt∧tt∧True∧u32s cs2 = List.map (rnV (lift 66 76 [64,67]) 3) (u32s cs2))∧True)∧tt∧tt)∧True)∧bytesEq d1 d2 = true)∧decide (cs = cs2) = true)∧decide (cs = cs2) = true)∧decide (cs = cs2) = true)∧decide (cs = cs2) = true)∧decide (cs = cs2) = true)∧rs.length < 9000000000000000000∧(rr (Value.slice (some ⟨65,0,none⟩) rs.length 9223372036854775873)∧rr (Value.slice (some ⟨68,0,none⟩) rs2.length 9223372036854775876)∧True)∧(((tt∧(rels rs).all (okV (fun l => l.blt 66) 3) = true∧tt∧tt∧tt∧True∧rels rs = List.map (rnV (lift 66 76 [65,68]) 3) (rels rs))∧(tt∧(rels rs2).all (okV (fun l => l.blt 66) 3) = true∧tt∧tt∧tt∧True∧rels rs2 = List.map (rnV (lift 66 76 [65,68]) 3) (rels rs2))∧True)∧tt∧tt)∧True)∧decide (cs = cs2) = true)∧relsB rs rs2 = false)∧relsB rs rs2 = false)∧relsB rs rs2 = false)∧relsB rs rs2 = false)∧relsB rs rs2 = false)∧relsB rs rs2 = false : St }):=by kernel_rfl
theorem sm_y (p1 s1 t1 p2 s2 t2 : Int) (d1 d2 : List UInt8) (cs cs2 ss ss2 : List Nat) (rs rs2 : List Rl) : evF Try.prog (baseR 3 (selEq cs cs2 ss ss2 rs rs2) noBase) noLoop 100 10 16 [im2V p1 s1 t1 cs.length rs.length ss.length d1 64 65 66,im2V p2 s2 t2 cs2.length rs2.length ss2.length d2 67 68 69] ⟨70,smH cs cs2 ss ss2 rs rs2,[],0,[(0,true),(1,true),(2,true),(3,true),(4,true),(5,true),(6,true),(7,true),(8,true),(9,true),(10,true),(11,true),(12,true),(13,true),(14,true),(15,true),(16,true),(17,true),(18,true),(19,true),(20,true),(21,true),(22,true),(23,true)],0,True⟩ = some (Value.bool (decide (ss = ss2)),{ n:=76,h:=[(64,⟨false,some (0,0),u32s cs,none⟩),(65,⟨false,some (0,0),rels rs,none⟩),(66,⟨false,some (0,0),u32s ss,none⟩),(67,⟨false,some (0,0),u32s cs2,none⟩),(68,⟨false,some (0,0),rels rs2,none⟩),(69,⟨false,some (0,0),u32s ss2,none⟩)],lo:=[],esc:=0,T:=[],k:=24,O:=((((((((((((((((((((((((((True∧(p1 == p2 && (s1 == s2 && (t1 == t2 && true))) = true)∧(p1 == p2 && (s1 == s2 && (t1 == t2 && true))) = true)∧(p1 == p2 && (s1 == s2 && (t1 == t2 && true))) = true)∧(p1 == p2 && (s1 == s2 && (t1 == t2 && true))) = true)∧(p1 == p2 && (s1 == s2 && (t1 == t2 && true))) = true)∧(p1 == p2 && (s1 == s2 && (t1 == t2 && true))) = true)∧bytesEq d1 d2 = true)∧bytesEq d1 d2 = true)∧bytesEq d1 d2 = true)∧bytesEq d1 d2 = true)∧bytesEq d1 d2 = true)∧cs.length < 9000000000000000000∧(rr (Value.slice (some ⟨64,0,none⟩) cs.length 9223372036854775872)∧rr (Value.slice (some ⟨67,0,none⟩) cs2.length 9223372036854775875)∧True)∧(((tt∧(u32s cs).all (okV (fun l => l.blt 66) 3) = true∧tt∧tt∧tt∧True∧u32s cs = List.map (rnV (lift 66 76 [64,67]) 3) (u32s cs))∧(tt∧(u32s cs2).all (okV (fun l => l.blt 66) 3) = true∧tt∧tt∧tt∧True∧u32s cs2 = List.map (rnV (lift 66 76 [64,67]) 3) (u32s cs2))∧True)∧tt∧tt)∧True)∧bytesEq d1 d2 = true)∧decide (cs = cs2) = true)∧decide (cs = cs2) = true)∧decide (cs = cs2) = true)∧decide (cs = cs2) = true)∧decide (cs = cs2) = true)∧rs.length < 9000000000000000000∧(rr (Value.slice (some ⟨65,0,none⟩) rs.length 9223372036854775873)∧rr (Value.slice (some ⟨68,0,none⟩) rs2.length 9223372036854775876)∧True)∧(((tt∧(rels rs).all (okV (fun l => l.blt 66) 3) = true∧tt∧tt∧tt∧True∧rels rs = List.map (rnV (lift 66 76 [65,68]) 3) (rels rs))∧(tt∧(rels rs2).all (okV (fun l => l.blt 66) 3) = true∧tt∧tt∧tt∧True∧rels rs2 = List.map (rnV (lift 66 76 [65,68]) 3) (rels rs2))∧True)∧tt∧tt)∧True)∧decide (cs = cs2) = true)∧relsB rs rs2 = true)∧relsB rs rs2 = true)∧relsB rs rs2 = true)∧relsB rs rs2 = true)∧relsB rs rs2 = true)∧ss.length < 9000000000000000000∧(rr (Value.slice (some ⟨66,0,none⟩) ss.length 9223372036854775874)∧rr (Value.slice (some ⟨69,0,none⟩) ss2.length 9223372036854775877)∧True)∧(((tt∧(u32s ss).all (okV (fun l => l.blt 66) 3) = true∧tt∧tt∧tt∧True∧u32s ss = List.map (rnV (lift 66 76 [66,69]) 3) (u32s ss))∧(tt∧(u32s ss2).all (okV (fun l => l.blt 66) 3) = true∧tt∧tt∧tt∧True∧u32s ss2 = List.map (rnV (lift 66 76 [66,69]) 3) (u32s ss2))∧True)∧tt∧tt)∧True)∧relsB rs rs2 = true : St }):=by kernel_rfl
def sameB (p1 s1 t1 p2 s2 t2 : Int) (d1 d2 : List UInt8) (cs cs2 ss ss2 : List Nat) (rs rs2 : List Rl) : Bool:=(p1 == p2 && (s1 == s2 && (t1 == t2 && true))) && (bytesEq d1 d2 && (decide (cs = cs2) && (relsB rs rs2 && decide (ss = ss2))))
def smC (p1 s1 t1 p2 s2 t2 : Int) (d1 d2 : List UInt8) (cs cs2 ss ss2 : List Nat) (rs rs2 : List Rl) : Con:=⟨[im2V p1 s1 t1 cs.length rs.length ss.length d1 64 65 66,im2V p2 s2 t2 cs2.length rs2.length ss2.length d2 67 68 69],70,smH cs cs2 ss ss2 rs rs2,[],.bool (sameB p1 s1 t1 p2 s2 t2 d1 d2 cs cs2 ss ss2 rs rs2),70,[],[]⟩
theorem sm_any {f : FuncId} {call : CallK} (hcall : SoundCall Try.prog call) {p1 s1 t1 p2 s2 t2 : Int} {d1 d2 : List UInt8} {cs cs2 ss ss2 : List Nat} {rs rs2 : List Rl} {T : List (Nat × Bool)} {v v' : Bool} {s' : St}
  (h : call f [im2V p1 s1 t1 cs.length rs.length ss.length d1 64 65 66,im2V p2 s2 t2 cs2.length rs2.length ss2.length d2 67 68 69] ⟨70,smH cs cs2 ss ss2 rs rs2,[],0,T,0,True⟩ = some (.bool v,s')) (hv : v = v') (hO : s'.O) : ConOk Try.prog f 3 ⟨[im2V p1 s1 t1 cs.length rs.length ss.length d1 64 65 66,im2V p2 s2 t2 cs2.length rs2.length ss2.length d2 67 68 69],70,smH cs cs2 ss ss2 rs rs2,[],.bool v',70,[],[]⟩:=by
 subst hv
 refine conOk_run (T:=T) hcall ?_ h hO (p:=fun l => Nat.blt l 70) (σ:=id) ?_
 ·exact ⟨by show NG ≤ 70; decide,Nat.le_refl _,⟨⟨rfl,rfl,flat_bnd (u32s_flat cs)⟩,⟨rfl,rfl,flat_bnd (rels_flat rs)⟩,⟨rfl,rfl,flat_bnd (u32s_flat ss)⟩,⟨rfl,rfl,flat_bnd (u32s_flat cs2)⟩,⟨rfl,rfl,flat_bnd (rels_flat rs2)⟩,⟨rfl,rfl,flat_bnd (u32s_flat ss2)⟩,trivial⟩,rfl,rfl,rfl,by kernel_rfl,rfl,fun x hx => by cases hx⟩
 ·exact ⟨fun _ _ => rfl,trivial,rfl,trivial,⟨rfl,rfl⟩,rfl,trivial,rfl,bnd_flat0 _ rfl,fun x hx => by cases hx⟩
theorem same_con (p1 s1 t1 p2 s2 t2 : Int) (d1 d2 : List UInt8) (cs cs2 ss ss2 : List Nat) (rs rs2 : List Rl) (h1 : cs.length < 9000000000000000000) (h2 : rs.length < 9000000000000000000) (h3 : ss.length < 9000000000000000000) : ConOk Try.prog 16 3 (smC p1 s1 t1 p2 s2 t2 d1 d2 cs cs2 ss ss2 rs rs2):=by
 have hr:=run_ok (L:=100) i_names (baseR_ok (selEq_ok cs cs2 ss ss2 rs rs2) (noBase_ok _)) (noLoop_ok _) 10
 cases hP : (p1 == p2 && (s1 == s2 && (t1 == t2 && true)))
 ·refine sm_any hr (sm_p p1 s1 t1 p2 s2 t2 d1 d2 cs cs2 ss ss2 rs rs2) ?_ ?_
  ·unfold sameB; simp only [rr, tt, hP,Bool.true_and,Bool.false_and]
  ·simp only [rr, tt, hP,and_self,and_true,true_and]
   repeat' (with_reducible apply And.intro)
   all_goals first | exact h1 | exact h2 | exact h3 | with_reducible rfl | with_reducible trivial | exact flat_all (u32s_flat cs) | exact (flat_map (u32s_flat cs)).symm | exact flat_all (u32s_flat cs2) | exact (flat_map (u32s_flat cs2)).symm | exact flat_all (u32s_flat ss) | exact (flat_map (u32s_flat ss)).symm | exact flat_all (u32s_flat ss2) | exact (flat_map (u32s_flat ss2)).symm | exact flat_all (rels_flat rs) | exact (flat_map (rels_flat rs)).symm | exact flat_all (rels_flat rs2) | exact (flat_map (rels_flat rs2)).symm
 ·skip
  cases hD : bytesEq d1 d2
  ·refine sm_any hr (sm_d p1 s1 t1 p2 s2 t2 d1 d2 cs cs2 ss ss2 rs rs2) ?_ ?_
   ·unfold sameB; simp only [rr, tt, hP,hD,Bool.true_and,Bool.false_and]
   ·simp only [rr, tt, hP,hD,and_self,and_true,true_and]
    repeat' (with_reducible apply And.intro)
    all_goals first | exact h1 | exact h2 | exact h3 | with_reducible rfl | with_reducible trivial | exact flat_all (u32s_flat cs) | exact (flat_map (u32s_flat cs)).symm | exact flat_all (u32s_flat cs2) | exact (flat_map (u32s_flat cs2)).symm | exact flat_all (u32s_flat ss) | exact (flat_map (u32s_flat ss)).symm | exact flat_all (u32s_flat ss2) | exact (flat_map (u32s_flat ss2)).symm | exact flat_all (rels_flat rs) | exact (flat_map (rels_flat rs)).symm | exact flat_all (rels_flat rs2) | exact (flat_map (rels_flat rs2)).symm
  ·skip
   cases hC : decide (cs = cs2)
   ·refine sm_any hr (sm_c p1 s1 t1 p2 s2 t2 d1 d2 cs cs2 ss ss2 rs rs2) ?_ ?_
    ·unfold sameB; simp only [rr, tt, hP,hD,hC,Bool.true_and,Bool.false_and]
    ·simp only [rr, tt, hP,hD,hC,and_self,and_true,true_and]
     repeat' (with_reducible apply And.intro)
     all_goals first | exact h1 | exact h2 | exact h3 | with_reducible rfl | with_reducible trivial | exact flat_all (u32s_flat cs) | exact (flat_map (u32s_flat cs)).symm | exact flat_all (u32s_flat cs2) | exact (flat_map (u32s_flat cs2)).symm | exact flat_all (u32s_flat ss) | exact (flat_map (u32s_flat ss)).symm | exact flat_all (u32s_flat ss2) | exact (flat_map (u32s_flat ss2)).symm | exact flat_all (rels_flat rs) | exact (flat_map (rels_flat rs)).symm | exact flat_all (rels_flat rs2) | exact (flat_map (rels_flat rs2)).symm
   ·skip
    cases hR : relsB rs rs2
    ·refine sm_any hr (sm_r p1 s1 t1 p2 s2 t2 d1 d2 cs cs2 ss ss2 rs rs2) ?_ ?_
     ·unfold sameB; simp only [rr, tt, hP,hD,hC,hR,Bool.true_and,Bool.false_and]
     ·simp only [rr, tt, hP,hD,hC,hR,and_self,and_true,true_and]
      repeat' (with_reducible apply And.intro)
      all_goals first | exact h1 | exact h2 | exact h3 | with_reducible rfl | with_reducible trivial | exact flat_all (u32s_flat cs) | exact (flat_map (u32s_flat cs)).symm | exact flat_all (u32s_flat cs2) | exact (flat_map (u32s_flat cs2)).symm | exact flat_all (u32s_flat ss) | exact (flat_map (u32s_flat ss)).symm | exact flat_all (u32s_flat ss2) | exact (flat_map (u32s_flat ss2)).symm | exact flat_all (rels_flat rs) | exact (flat_map (rels_flat rs)).symm | exact flat_all (rels_flat rs2) | exact (flat_map (rels_flat rs2)).symm
    ·skip
     refine sm_any hr (sm_y p1 s1 t1 p2 s2 t2 d1 d2 cs cs2 ss ss2 rs rs2) ?_ ?_
     ·unfold sameB; simp only [rr, tt, hP,hD,hC,hR,Bool.true_and]
     ·simp only [rr, tt, hP,hD,hC,hR,and_self,and_true,true_and]
      repeat' (with_reducible apply And.intro)
      all_goals first | exact h1 | exact h2 | exact h3 | with_reducible rfl | with_reducible trivial | exact flat_all (u32s_flat cs) | exact (flat_map (u32s_flat cs)).symm | exact flat_all (u32s_flat cs2) | exact (flat_map (u32s_flat cs2)).symm | exact flat_all (u32s_flat ss) | exact (flat_map (u32s_flat ss)).symm | exact flat_all (u32s_flat ss2) | exact (flat_map (u32s_flat ss2)).symm | exact flat_all (rels_flat rs) | exact (flat_map (rels_flat rs)).symm | exact flat_all (rels_flat rs2) | exact (flat_map (rels_flat rs2)).symm
end Go.Proofs.Ytdljpnebpoaeiaa
namespace Go.Proofs.Ytdljpnebpoaeiaa
open Go.RowKit
open Sy
def selEqZ (cs ss : List Nat) : SelC:=fun f args _ =>
 match args with
 | [.slice (some a) _ _,.slice (some b) _ _] => bif Nat.beq f 32 then (bif Nat.beq a.block 64 then some (eqC cs cs,[a.block,b.block],cs.length < 9000000000000000000) else some (eqC ss ss,[a.block,b.block],ss.length < 9000000000000000000)) else none
 | _ => none
theorem selEqZ_ok (cs ss : List Nat) : SelOk Try.prog 3 (selEqZ cs ss):=by
 intro f args s c ρ q h hq
 unfold selEqZ at h
 split at h
 ·rename_i a _ _ b _ _
  obtain ⟨h2,h3⟩:=bif_some h
  have h2:=Nat.eq_of_beq_eq_true h2
  subst h2
  cases h4 : Nat.beq a.block 64 <;> rw [h4] at h3
  ·cases h3
   exact eq_con ss ss hq
  ·cases h3
   exact eq_con cs cs hq
 ·cases h
def smzH (cs ss : List Nat) : Sy.Heap:=[(64,⟨false,some (0,0),u32s cs,none⟩),(66,⟨false,some (0,0),u32s ss,none⟩),(67,⟨false,some (0,0),u32s cs,none⟩),(69,⟨false,some (0,0),u32s ss,none⟩)]
def imzV (p s t : Int) (nc ns : Nat) (d : List UInt8) (a c : Nat) : Value:=.agg ⟨[.int .i64 p,.int .i64 s,.int .i64 t,.slice (some ⟨a,0,none⟩) nc (big + a),.string ⟨⟨d⟩⟩,.slice none 0 0,.slice (some ⟨c,0,none⟩) ns (big + c)]⟩
def smzC (p s t : Int) (d : List UInt8) (cs ss : List Nat) : Con:=⟨[im2V p s t cs.length 0 ss.length d 64 65 66,imzV p s t cs.length ss.length d 67 69],70,smzH cs ss,[],.bool true,70,[],[]⟩
theorem smz_r (p s t : Int) (d : List UInt8) (cs ss : List Nat) : evF Try.prog (baseR 3 (selEqZ cs ss) noBase) noLoop 100 10 16 [im2V p s t cs.length 0 ss.length d 64 65 66,imzV p s t cs.length ss.length d 67 69] ⟨70,smzH cs ss,[],0,[(0,true),(1,true),(2,true),(3,true),(4,true),(5,true),(6,true),(7,true),(8,true),(9,true),(10,true),(11,true),(12,true),(13,true),(14,true),(15,true),(16,true),(17,false),(18,false),(19,true),(20,true),(21,true),(22,true),(23,true),(24,true),(25,true)],0,True⟩ = some (Value.bool (decide (ss = ss)),{ n:=76,h:=[(64,⟨false,some (0,0),u32s cs,none⟩),(66,⟨false,some (0,0),u32s ss,none⟩),(67,⟨false,some (0,0),u32s cs,none⟩),(69,⟨false,some (0,0),u32s ss,none⟩)],lo:=[],esc:=0,T:=[],k:=26,O:=(((((((((((((((((((((((((((True∧(p == p && (s == s && (t == t && true))) = true)∧(p == p && (s == s && (t == t && true))) = true)∧(p == p && (s == s && (t == t && true))) = true)∧(p == p && (s == s && (t == t && true))) = true)∧(p == p && (s == s && (t == t && true))) = true)∧(p == p && (s == s && (t == t && true))) = true)∧bytesEq d d = true)∧bytesEq d d = true)∧bytesEq d d = true)∧bytesEq d d = true)∧bytesEq d d = true)∧cs.length < 9000000000000000000∧(rr (Value.slice (some ⟨64,0,none⟩) cs.length 9223372036854775872)∧rr (Value.slice (some ⟨67,0,none⟩) cs.length 9223372036854775875)∧True)∧(((tt∧(u32s cs).all (okV (fun l => l.blt 66) 3) = true∧tt∧tt∧tt∧True∧u32s cs = List.map (rnV (lift 66 76 [64,67]) 3) (u32s cs))∧(tt∧(u32s cs).all (okV (fun l => l.blt 66) 3) = true∧tt∧tt∧tt∧True∧u32s cs = List.map (rnV (lift 66 76 [64,67]) 3) (u32s cs))∧True)∧tt∧tt)∧True)∧bytesEq d d = true)∧decide (cs = cs) = true)∧decide (cs = cs) = true)∧decide (cs = cs) = true)∧decide (cs = cs) = true)∧decide (cs = cs) = true)∧rr false)∧rr false)∧decide (cs = cs) = true)∧tt)∧tt)∧tt)∧tt)∧tt)∧ss.length < 9000000000000000000∧(rr (Value.slice (some ⟨66,0,none⟩) ss.length 9223372036854775874)∧rr (Value.slice (some ⟨69,0,none⟩) ss.length 9223372036854775877)∧True)∧(((tt∧(u32s ss).all (okV (fun l => l.blt 66) 3) = true∧tt∧tt∧tt∧True∧u32s ss = List.map (rnV (lift 66 76 [66,69]) 3) (u32s ss))∧(tt∧(u32s ss).all (okV (fun l => l.blt 66) 3) = true∧tt∧tt∧tt∧True∧u32s ss = List.map (rnV (lift 66 76 [66,69]) 3) (u32s ss))∧True)∧tt∧tt)∧True)∧true = true : St }):=by kernel_rfl
theorem smz_con (p s t : Int) (d : List UInt8) (cs ss : List Nat) (h1 : cs.length < 9000000000000000000) (h2 : ss.length < 9000000000000000000) : ConOk Try.prog 16 3 (smzC p s t d cs ss):=by
 have hr:=run_ok (L:=100) i_names (baseR_ok (selEqZ_ok cs ss) (noBase_ok _)) (noLoop_ok _) 10
 have f5 : bytesEq d d = true:=by rw [bytesEq_iff]; exact beq_self_eq_true d
 have h:=smz_r p s t d cs ss
 rw [show decide (ss = ss) = true from decide_eq_true rfl] at h
 refine conOk_run hr ?_ h ?_ (p:=fun l => Nat.blt l 70) (σ:=id) ?_
 ·exact ⟨by show NG ≤ 70; decide,Nat.le_refl _,⟨⟨rfl,rfl,flat_bnd (u32s_flat cs)⟩,⟨rfl,rfl,flat_bnd (u32s_flat ss)⟩,⟨rfl,rfl,flat_bnd (u32s_flat cs)⟩,⟨rfl,rfl,flat_bnd (u32s_flat ss)⟩,trivial⟩,rfl,rfl,rfl,by kernel_rfl,rfl,fun x hx => by cases hx⟩
 ·simp only [rr, tt, f5,BEq.rfl,Bool.and_self,decide_true,and_self,and_true,true_and]
  repeat' (with_reducible apply And.intro)
  all_goals first | exact h1 | exact h2 | with_reducible rfl | with_reducible trivial | exact flat_all (u32s_flat cs) | exact (flat_map (u32s_flat cs)).symm | exact flat_all (u32s_flat ss) | exact (flat_map (u32s_flat ss)).symm
 ·exact ⟨fun _ _ => rfl,trivial,rfl,trivial,⟨rfl,rfl⟩,rfl,trivial,rfl,bnd_flat0 _ rfl,fun x hx => by cases hx⟩
end Go.Proofs.Ytdljpnebpoaeiaa
namespace Go.Proofs.Ytdljpnebpoaeiaa
open Go.RowKit
open Sy
def rdA (bs : List UInt8) (off n : Nat) : Sy.Heap:=[(64,⟨true,none,[.slice (some ⟨65,off,none⟩) n (big + 66)],none⟩),(65,⟨false,some (0,0),u8s bs,none⟩)]
def rdE (bs : List UInt8) : Sy.Heap:=[(64,⟨true,none,[.slice (some ⟨65,0,some 66⟩) 0 (big + 66)],none⟩),(65,⟨false,some (0,0),u8s bs,none⟩)]
theorem nma1 (bs : List UInt8) (off n : Nat) : evF Try.prog noBase noLoop 100 10 41 [Value.pointer (some ⟨64,0,none⟩),.int .i64 1] ⟨67,rdA bs off n,[(66,n)],0,[(0,false),(1,true),(2,true),(3,true),(4,true),(5,true),(6,true),(7,false),(8,false),(9,false),(10,false),(11,false),(12,false),(13,false),(14,false),(15,false),(16,false),(17,false),(18,true),(19,false),(20,false),(21,false),(22,false),(23,false),(24,false),(25,false),(26,false),(27,false),(28,false),(29,false),(30,false),(31,false),(32,true)],0,True⟩ = some (Value.tuple { toList:=[Value.int .u32 (bits BinOp.or IntKind.u32 (0:Int) (IntKind.u32.wrap (intOf' (getD' undef (u8s bs) (off+0+0))))),.bool true] },{ n:=70,h:=[(64,{ rw:=true,op:=none,cells:=[Value.slice (some { block:=65,off:=off+1 }) (n - 1) 9223372036854775877],it:=none : Sy.Blk }),(65,⟨false,some (0,0),u8s bs,none⟩)],lo:=[(69,n - 1),(68,1),(67,1),(66,n)],esc:=0,T:=[],k:=33,O:=(bif decide ((1:Int) ≤ (↑n:Int)) then bif (List.take 1 (List.drop off (u8s bs))).all isU8 then bif hasN (off+1) (u8s bs) then bif decide ((1:Int) ≤ (↑n:Int)) then (((((((((((bif hasN (off+0+0+1) (u8s bs) && isLikeL [Value.int .u8 0] (u8s bs) (off+0+0) then (((bif decide ((1:Int) ≤ (↑n:Int)) then (((((((((((((((((True∧rr false)∧tt)∧tt)∧tt)∧tt)∧tt)∧tt)∧rr false)∧rr false)∧rr false)∧rr false)∧rr false)∧rr false)∧rr false)∧rr false)∧rr false)∧rr false)∧decide ((0:Int) > IntKind.i64.wrap ((↑n:Int) - (1:Int))) = false else False)∧tt)∧rr false)∧false = false else False)∧rr false)∧rr false)∧rr false)∧rr false)∧rr false)∧rr false)∧rr false)∧decide ((1:Int) > (↑n:Int)) = false)∧decide ((1:Int) > (↑n:Int)) = false)∧decide ((1:Int) > (↑n:Int)) = false)∧false = false else False else False else False else False)∧Nat.blt 1 n = true : St }):=by kernel_rfl
theorem nmb1 (bs : List UInt8) (off n : Nat) : evF Try.prog noBase noLoop 100 10 41 [Value.pointer (some ⟨64,0,none⟩),.int .i64 1] ⟨67,rdA bs off n,[(66,n)],0,[(0,false),(1,true),(2,true),(3,true),(4,true),(5,true),(6,true),(7,false),(8,false),(9,false),(10,false),(11,false),(12,false),(13,false),(14,false),(15,false),(16,false),(17,false),(18,true),(19,false),(20,false),(21,false),(22,false),(23,false),(24,false),(25,false),(26,false),(27,false),(28,false),(29,false),(30,false),(31,false),(32,false)],0,True⟩ = some (Value.tuple { toList:=[Value.int .u32 (bits BinOp.or IntKind.u32 (0:Int) (IntKind.u32.wrap (intOf' (getD' undef (u8s bs) (off+0+0))))),.bool true] },{ n:=70,h:=[(64,{ rw:=true,op:=none,cells:=[Value.slice (some { block:=65,off:=0,spot:=some 69 }) (n - 1) 9223372036854775877],it:=none : Sy.Blk }),(65,⟨false,some (0,0),u8s bs,none⟩)],lo:=[(69,n - 1),(68,1),(67,1),(66,n)],esc:=0,T:=[],k:=33,O:=(bif decide ((1:Int) ≤ (↑n:Int)) then bif (List.take 1 (List.drop off (u8s bs))).all isU8 then bif hasN (off+1) (u8s bs) then bif decide ((1:Int) ≤ (↑n:Int)) then (((((((((((bif hasN (off+0+0+1) (u8s bs) && isLikeL [Value.int .u8 0] (u8s bs) (off+0+0) then (((bif decide ((1:Int) ≤ (↑n:Int)) then (((((((((((((((((True∧rr false)∧tt)∧tt)∧tt)∧tt)∧tt)∧tt)∧rr false)∧rr false)∧rr false)∧rr false)∧rr false)∧rr false)∧rr false)∧rr false)∧rr false)∧rr false)∧decide ((0:Int) > IntKind.i64.wrap ((↑n:Int) - (1:Int))) = false else False)∧tt)∧rr false)∧false = false else False)∧rr false)∧rr false)∧rr false)∧rr false)∧rr false)∧rr false)∧rr false)∧decide ((1:Int) > (↑n:Int)) = false)∧decide ((1:Int) > (↑n:Int)) = false)∧decide ((1:Int) > (↑n:Int)) = false)∧false = false else False else False else False else False)∧Nat.blt 1 n = false : St }):=by kernel_rfl
theorem nmc1 (bs : List UInt8) (off n : Nat) : evF Try.prog noBase noLoop 100 10 41 [Value.pointer (some ⟨64,0,none⟩),.int .i64 1] ⟨67,rdA bs off n,[(66,n)],0,[(0,false),(1,true),(2,true),(3,true),(4,true),(5,true),(6,true),(7,false),(8,false),(9,false),(10,false),(11,false),(12,false),(13,false),(14,false),(15,false),(16,false),(17,true),(18,true)],0,True⟩ = some (Value.tuple { toList:=[Value.int .u32 0,.bool false] },{ n:=67,h:=[(64,{ rw:=true,op:=none,cells:=[Value.slice (some { block:=65,off:=off }) n 9223372036854775874],it:=none : Sy.Blk }),(65,⟨false,some (0,0),u8s bs,none⟩)],lo:=[(66,n)],esc:=0,T:=[],k:=19,O:=((((((((((((((((((True∧rr false)∧tt)∧tt)∧tt)∧tt)∧tt)∧tt)∧rr false)∧rr false)∧rr false)∧rr false)∧rr false)∧rr false)∧rr false)∧rr false)∧rr false)∧rr false)∧decide ((0:Int) > IntKind.i64.wrap ((↑n:Int) - (1:Int))) = true)∧true = true : St }):=by kernel_rfl
theorem nme1 (bs : List UInt8) : evF Try.prog noBase noLoop 100 10 41 [Value.pointer (some ⟨64,0,none⟩),.int .i64 1] ⟨67,rdE bs,[(66,0)],0,[],0,True⟩ = some (Value.tuple { toList:=[Value.int .u32 0,.bool false] },{ n:=67,h:=[(64,{ rw:=true,op:=none,cells:=[Value.slice (some { block:=65,off:=0,spot:=some 66 }) 0 9223372036854775874],it:=none : Sy.Blk }),(65,⟨false,some (0,0),u8s bs,none⟩)],lo:=[(66,0)],esc:=0,T:=[],k:=0,O:=True : St }):=by kernel_rfl
theorem nma2 (bs : List UInt8) (off n : Nat) : evF Try.prog noBase noLoop 100 10 41 [Value.pointer (some ⟨64,0,none⟩),.int .i64 2] ⟨67,rdA bs off n,[(66,n)],0,[(0,false),(1,false),(2,false),(3,false),(4,true),(5,true),(6,true),(7,false),(8,false),(9,false),(10,false),(11,false),(12,false),(13,false),(14,false),(15,false),(16,false),(17,false),(18,true),(19,false),(20,true),(21,false),(22,false),(23,false),(24,false),(25,false),(26,false),(27,false),(28,false),(29,false),(30,false),(31,false),(32,true)],0,True⟩ = some (Value.tuple { toList:=[Value.int .u32 (bits BinOp.or IntKind.u32 (bits BinOp.or IntKind.u32 (0:Int) (IntKind.u32.wrap (IntKind.u32.wrap (intOf' (getD' undef (u8s bs) (off+0+1))) * (256:Int)))) (IntKind.u32.wrap (intOf' (getD' undef (u8s bs) (off+0+0))))),.bool true] },{ n:=70,h:=[(64,{ rw:=true,op:=none,cells:=[Value.slice (some { block:=65,off:=off+2 }) (n - 2) 9223372036854775877],it:=none : Sy.Blk }),(65,⟨false,some (0,0),u8s bs,none⟩)],lo:=[(69,n - 2),(68,2),(67,2),(66,n)],esc:=0,T:=[],k:=33,O:=(bif decide ((2:Int) ≤ (↑n:Int)) then bif (List.take 2 (List.drop off (u8s bs))).all isU8 then bif hasN (off+2) (u8s bs) then bif decide ((2:Int) ≤ (↑n:Int)) then (((((((((((bif hasN (off+0+0+1) (u8s bs) && isLikeL [Value.int .u8 0] (u8s bs) (off+0+0) then bif hasN (off+0+1+1) (u8s bs) && isLikeL [Value.int .u8 0] (u8s bs) (off+0+1) then (((bif decide ((2:Int) ≤ (↑n:Int)) then (((((((((((((((((True∧rr false)∧rr false)∧rr false)∧rr false)∧tt)∧tt)∧tt)∧rr false)∧rr false)∧rr false)∧rr false)∧rr false)∧rr false)∧rr false)∧rr false)∧rr false)∧rr false)∧decide ((0:Int) > IntKind.i64.wrap ((↑n:Int) - (2:Int))) = false else False)∧tt)∧rr false)∧true = true else False else False)∧rr false)∧rr false)∧rr false)∧rr false)∧rr false)∧rr false)∧rr false)∧decide ((2:Int) > (↑n:Int)) = false)∧decide ((2:Int) > (↑n:Int)) = false)∧decide ((2:Int) > (↑n:Int)) = false)∧false = false else False else False else False else False)∧Nat.blt 2 n = true : St }):=by kernel_rfl
theorem nmb2 (bs : List UInt8) (off n : Nat) : evF Try.prog noBase noLoop 100 10 41 [Value.pointer (some ⟨64,0,none⟩),.int .i64 2] ⟨67,rdA bs off n,[(66,n)],0,[(0,false),(1,false),(2,false),(3,false),(4,true),(5,true),(6,true),(7,false),(8,false),(9,false),(10,false),(11,false),(12,false),(13,false),(14,false),(15,false),(16,false),(17,false),(18,true),(19,false),(20,true),(21,false),(22,false),(23,false),(24,false),(25,false),(26,false),(27,false),(28,false),(29,false),(30,false),(31,false),(32,false)],0,True⟩ = some (Value.tuple { toList:=[Value.int .u32 (bits BinOp.or IntKind.u32 (bits BinOp.or IntKind.u32 (0:Int) (IntKind.u32.wrap (IntKind.u32.wrap (intOf' (getD' undef (u8s bs) (off+0+1))) * (256:Int)))) (IntKind.u32.wrap (intOf' (getD' undef (u8s bs) (off+0+0))))),.bool true] },{ n:=70,h:=[(64,{ rw:=true,op:=none,cells:=[Value.slice (some { block:=65,off:=0,spot:=some 69 }) (n - 2) 9223372036854775877],it:=none : Sy.Blk }),(65,⟨false,some (0,0),u8s bs,none⟩)],lo:=[(69,n - 2),(68,2),(67,2),(66,n)],esc:=0,T:=[],k:=33,O:=(bif decide ((2:Int) ≤ (↑n:Int)) then bif (List.take 2 (List.drop off (u8s bs))).all isU8 then bif hasN (off+2) (u8s bs) then bif decide ((2:Int) ≤ (↑n:Int)) then (((((((((((bif hasN (off+0+0+1) (u8s bs) && isLikeL [Value.int .u8 0] (u8s bs) (off+0+0) then bif hasN (off+0+1+1) (u8s bs) && isLikeL [Value.int .u8 0] (u8s bs) (off+0+1) then (((bif decide ((2:Int) ≤ (↑n:Int)) then (((((((((((((((((True∧rr false)∧rr false)∧rr false)∧rr false)∧tt)∧tt)∧tt)∧rr false)∧rr false)∧rr false)∧rr false)∧rr false)∧rr false)∧rr false)∧rr false)∧rr false)∧rr false)∧decide ((0:Int) > IntKind.i64.wrap ((↑n:Int) - (2:Int))) = false else False)∧tt)∧rr false)∧true = true else False else False)∧rr false)∧rr false)∧rr false)∧rr false)∧rr false)∧rr false)∧rr false)∧decide ((2:Int) > (↑n:Int)) = false)∧decide ((2:Int) > (↑n:Int)) = false)∧decide ((2:Int) > (↑n:Int)) = false)∧false = false else False else False else False else False)∧Nat.blt 2 n = false : St }):=by kernel_rfl
theorem nmc2 (bs : List UInt8) (off n : Nat) : evF Try.prog noBase noLoop 100 10 41 [Value.pointer (some ⟨64,0,none⟩),.int .i64 2] ⟨67,rdA bs off n,[(66,n)],0,[(0,false),(1,false),(2,false),(3,false),(4,true),(5,true),(6,true),(7,false),(8,false),(9,false),(10,false),(11,false),(12,false),(13,false),(14,false),(15,false),(16,false),(17,true),(18,true)],0,True⟩ = some (Value.tuple { toList:=[Value.int .u32 0,.bool false] },{ n:=67,h:=[(64,{ rw:=true,op:=none,cells:=[Value.slice (some { block:=65,off:=off }) n 9223372036854775874],it:=none : Sy.Blk }),(65,⟨false,some (0,0),u8s bs,none⟩)],lo:=[(66,n)],esc:=0,T:=[],k:=19,O:=((((((((((((((((((True∧rr false)∧rr false)∧rr false)∧rr false)∧tt)∧tt)∧tt)∧rr false)∧rr false)∧rr false)∧rr false)∧rr false)∧rr false)∧rr false)∧rr false)∧rr false)∧rr false)∧decide ((0:Int) > IntKind.i64.wrap ((↑n:Int) - (2:Int))) = true)∧true = true : St }):=by kernel_rfl
theorem nme2 (bs : List UInt8) : evF Try.prog noBase noLoop 100 10 41 [Value.pointer (some ⟨64,0,none⟩),.int .i64 2] ⟨67,rdE bs,[(66,0)],0,[],0,True⟩ = some (Value.tuple { toList:=[Value.int .u32 0,.bool false] },{ n:=67,h:=[(64,{ rw:=true,op:=none,cells:=[Value.slice (some { block:=65,off:=0,spot:=some 66 }) 0 9223372036854775874],it:=none : Sy.Blk }),(65,⟨false,some (0,0),u8s bs,none⟩)],lo:=[(66,0)],esc:=0,T:=[],k:=0,O:=True : St }):=by kernel_rfl
theorem nma4 (bs : List UInt8) (off n : Nat) : evF Try.prog noBase noLoop 100 10 41 [Value.pointer (some ⟨64,0,none⟩),.int .i64 4] ⟨67,rdA bs off n,[(66,n)],0,[(0,false),(1,false),(2,false),(3,false),(4,false),(5,false),(6,false),(7,false),(8,false),(9,false),(10,false),(11,false),(12,false),(13,false),(14,false),(15,false),(16,false),(17,false),(18,true),(19,true),(20,false),(21,false),(22,false),(23,false),(24,false),(25,false),(26,false),(27,false),(28,false),(29,false),(30,false),(31,true)],0,True⟩ = some (Value.tuple { toList:=[Value.int .u32 (bits BinOp.or IntKind.u32 (bits BinOp.or IntKind.u32 (bits BinOp.or IntKind.u32 (IntKind.u32.wrap (IntKind.u32.wrap (intOf' (getD' undef (u8s bs) (off+0+3))) * (16777216:Int))) (IntKind.u32.wrap (IntKind.u32.wrap (intOf' (getD' undef (u8s bs) (off+0+2))) * (65536:Int)))) (IntKind.u32.wrap (IntKind.u32.wrap (intOf' (getD' undef (u8s bs) (off+0+1))) * (256:Int)))) (IntKind.u32.wrap (intOf' (getD' undef (u8s bs) (off+0+0))))),.bool true] },{ n:=70,h:=[(64,{ rw:=true,op:=none,cells:=[Value.slice (some { block:=65,off:=off+4 }) (n - 4) 9223372036854775877],it:=none : Sy.Blk }),(65,⟨false,some (0,0),u8s bs,none⟩)],lo:=[(69,n - 4),(68,4),(67,4),(66,n)],esc:=0,T:=[],k:=32,O:=(bif decide ((4:Int) ≤ (↑n:Int)) then bif (List.take 4 (List.drop off (u8s bs))).all isU8 then bif hasN (off+4) (u8s bs) then bif decide ((4:Int) ≤ (↑n:Int)) then (((((((((((bif hasN (off+0+0+1) (u8s bs) && isLikeL [Value.int .u8 0] (u8s bs) (off+0+0) then bif hasN (off+0+1+1) (u8s bs) && isLikeL [Value.int .u8 0] (u8s bs) (off+0+1) then bif hasN (off+0+2+1) (u8s bs) && isLikeL [Value.int .u8 0] (u8s bs) (off+0+2) then bif hasN (off+0+3+1) (u8s bs) && isLikeL [Value.int .u8 0] (u8s bs) (off+0+3) then ((bif decide ((4:Int) ≤ (↑n:Int)) then (((((((((((((((((True∧rr false)∧rr false)∧rr false)∧rr false)∧rr false)∧rr false)∧rr false)∧rr false)∧rr false)∧rr false)∧rr false)∧rr false)∧rr false)∧rr false)∧rr false)∧rr false)∧rr false)∧decide ((0:Int) > IntKind.i64.wrap ((↑n:Int) - (4:Int))) = false else False)∧tt)∧true = true else False else False else False else False)∧rr false)∧rr false)∧rr false)∧rr false)∧rr false)∧rr false)∧rr false)∧decide ((4:Int) > (↑n:Int)) = false)∧decide ((4:Int) > (↑n:Int)) = false)∧decide ((4:Int) > (↑n:Int)) = false)∧false = false else False else False else False else False)∧Nat.blt 4 n = true : St }):=by kernel_rfl
theorem nmb4 (bs : List UInt8) (off n : Nat) : evF Try.prog noBase noLoop 100 10 41 [Value.pointer (some ⟨64,0,none⟩),.int .i64 4] ⟨67,rdA bs off n,[(66,n)],0,[(0,false),(1,false),(2,false),(3,false),(4,false),(5,false),(6,false),(7,false),(8,false),(9,false),(10,false),(11,false),(12,false),(13,false),(14,false),(15,false),(16,false),(17,false),(18,true),(19,true),(20,false),(21,false),(22,false),(23,false),(24,false),(25,false),(26,false),(27,false),(28,false),(29,false),(30,false),(31,false)],0,True⟩ = some (Value.tuple { toList:=[Value.int .u32 (bits BinOp.or IntKind.u32 (bits BinOp.or IntKind.u32 (bits BinOp.or IntKind.u32 (IntKind.u32.wrap (IntKind.u32.wrap (intOf' (getD' undef (u8s bs) (off+0+3))) * (16777216:Int))) (IntKind.u32.wrap (IntKind.u32.wrap (intOf' (getD' undef (u8s bs) (off+0+2))) * (65536:Int)))) (IntKind.u32.wrap (IntKind.u32.wrap (intOf' (getD' undef (u8s bs) (off+0+1))) * (256:Int)))) (IntKind.u32.wrap (intOf' (getD' undef (u8s bs) (off+0+0))))),.bool true] },{ n:=70,h:=[(64,{ rw:=true,op:=none,cells:=[Value.slice (some { block:=65,off:=0,spot:=some 69 }) (n - 4) 9223372036854775877],it:=none : Sy.Blk }),(65,⟨false,some (0,0),u8s bs,none⟩)],lo:=[(69,n - 4),(68,4),(67,4),(66,n)],esc:=0,T:=[],k:=32,O:=(bif decide ((4:Int) ≤ (↑n:Int)) then bif (List.take 4 (List.drop off (u8s bs))).all isU8 then bif hasN (off+4) (u8s bs) then bif decide ((4:Int) ≤ (↑n:Int)) then (((((((((((bif hasN (off+0+0+1) (u8s bs) && isLikeL [Value.int .u8 0] (u8s bs) (off+0+0) then bif hasN (off+0+1+1) (u8s bs) && isLikeL [Value.int .u8 0] (u8s bs) (off+0+1) then bif hasN (off+0+2+1) (u8s bs) && isLikeL [Value.int .u8 0] (u8s bs) (off+0+2) then bif hasN (off+0+3+1) (u8s bs) && isLikeL [Value.int .u8 0] (u8s bs) (off+0+3) then ((bif decide ((4:Int) ≤ (↑n:Int)) then (((((((((((((((((True∧rr false)∧rr false)∧rr false)∧rr false)∧rr false)∧rr false)∧rr false)∧rr false)∧rr false)∧rr false)∧rr false)∧rr false)∧rr false)∧rr false)∧rr false)∧rr false)∧rr false)∧decide ((0:Int) > IntKind.i64.wrap ((↑n:Int) - (4:Int))) = false else False)∧tt)∧true = true else False else False else False else False)∧rr false)∧rr false)∧rr false)∧rr false)∧rr false)∧rr false)∧rr false)∧decide ((4:Int) > (↑n:Int)) = false)∧decide ((4:Int) > (↑n:Int)) = false)∧decide ((4:Int) > (↑n:Int)) = false)∧false = false else False else False else False else False)∧Nat.blt 4 n = false : St }):=by kernel_rfl
theorem nmc4 (bs : List UInt8) (off n : Nat) : evF Try.prog noBase noLoop 100 10 41 [Value.pointer (some ⟨64,0,none⟩),.int .i64 4] ⟨67,rdA bs off n,[(66,n)],0,[(0,false),(1,false),(2,false),(3,false),(4,false),(5,false),(6,false),(7,false),(8,false),(9,false),(10,false),(11,false),(12,false),(13,false),(14,false),(15,false),(16,false),(17,true),(18,true)],0,True⟩ = some (Value.tuple { toList:=[Value.int .u32 0,.bool false] },{ n:=67,h:=[(64,{ rw:=true,op:=none,cells:=[Value.slice (some { block:=65,off:=off }) n 9223372036854775874],it:=none : Sy.Blk }),(65,⟨false,some (0,0),u8s bs,none⟩)],lo:=[(66,n)],esc:=0,T:=[],k:=19,O:=((((((((((((((((((True∧rr false)∧rr false)∧rr false)∧rr false)∧rr false)∧rr false)∧rr false)∧rr false)∧rr false)∧rr false)∧rr false)∧rr false)∧rr false)∧rr false)∧rr false)∧rr false)∧rr false)∧decide ((0:Int) > IntKind.i64.wrap ((↑n:Int) - (4:Int))) = true)∧true = true : St }):=by kernel_rfl
theorem nme4 (bs : List UInt8) : evF Try.prog noBase noLoop 100 10 41 [Value.pointer (some ⟨64,0,none⟩),.int .i64 4] ⟨67,rdE bs,[(66,0)],0,[],0,True⟩ = some (Value.tuple { toList:=[Value.int .u32 0,.bool false] },{ n:=67,h:=[(64,{ rw:=true,op:=none,cells:=[Value.slice (some { block:=65,off:=0,spot:=some 66 }) 0 9223372036854775874],it:=none : Sy.Blk }),(65,⟨false,some (0,0),u8s bs,none⟩)],lo:=[(66,0)],esc:=0,T:=[],k:=0,O:=True : St }):=by kernel_rfl
end Go.Proofs.Ytdljpnebpoaeiaa
namespace Go.Proofs.Ytdljpnebpoaeiaa
open Go.RowKit
open Sy
def leV : Nat → List UInt8 → Nat
 | 0,_ => 0
 | w + 1,l => (l.headD 0).toNat + 256 * leV w l.tail
theorem leV_lt : ∀ (w : Nat) (l : List UInt8),leV w l < 256 ^ w
 | 0,_ => by simp [leV]
 | w + 1,l => by
  have h:=leV_lt w l.tail
  have h1 : (l.headD 0).toNat < 256:=UInt8.toNat_lt _
  simp only [rr, tt, leV,Nat.pow_succ]
  omega
def byN (bs : List UInt8) (i : Nat) : Nat:=(bs.getD i 0).toNat
theorem byN_lt (bs : List UInt8) (i : Nat) : byN bs i < 256:=UInt8.toNat_lt _
theorem drop_head (bs : List UInt8) (i : Nat) : ((bs.drop i).headD 0).toNat = byN bs i:=by
 unfold byN
 congr 1
 rw [List.headD_eq_head?_getD,List.head?_drop,List.getD_eq_getElem?_getD]
theorem drop_tail (bs : List UInt8) (i : Nat) : (bs.drop i).tail = bs.drop (i + 1):=by rw [List.tail_drop]
theorem leV_1 (bs : List UInt8) (i : Nat) : leV 1 (bs.drop i) = byN bs i:=by simp only [rr, tt, leV,drop_head]; omega
theorem leV_2 (bs : List UInt8) (i : Nat) : leV 2 (bs.drop i) = byN bs i + 256 * byN bs (i + 1):=by simp only [rr, tt, leV,drop_head,drop_tail]; omega
theorem leV_4 (bs : List UInt8) (i : Nat) : leV 4 (bs.drop i) = byN bs i + 256 * byN bs (i + 1) + 65536 * byN bs (i + 2) + 16777216 * byN bs (i + 3):=by simp only [rr, tt, leV,drop_head,drop_tail,Nat.add_assoc,Nat.reduceAdd]; omega
theorem u8s_at (bs : List UInt8) (i : Nat) : intOf' (getD' undef (u8s bs) i) = ((byN bs i : Nat) : Int):=by
 unfold u8s byN
 rw [getD_map _ _ 0]
 split
 ·rfl
 ·rename_i h
  rw [List.getD_eq_getElem?_getD,List.getElem?_eq_none (by omega)]; rfl
theorem u8s_like (bs : List UInt8) (i : Nat) (b : Int) : isLikeL [.int .u8 b] (u8s bs) i = decide (i < bs.length):=by
 unfold u8s
 simp only [rr, tt, isLikeL,Bool.and_true]
 rw [getD_map _ _ (0 : UInt8)]
 by_cases h : i < bs.length
 ·rw [if_pos h]; simp [h,isLike]
 ·rw [if_neg h]; simp [h]; rfl
theorem isU8_any (a : List UInt8) (n m : Nat) : (List.take n (List.drop m (u8s a))).all isU8 = true:=by
 rw [List.all_eq_true]
 intro v hv
 obtain ⟨b,_,rfl⟩:=List.mem_map.1 (List.mem_of_mem_drop (List.mem_of_mem_take hv))
 rfl
theorem or_hi (x y k : Nat) (hx : x % 2 ^ k = 0) (hy : y < 2 ^ k) : x ||| y = x + y:=by
 have h:=Nat.two_pow_add_eq_or_of_lt hy (x / 2 ^ k)
 have h1 : 2 ^ k * (x / 2 ^ k) = x:=Nat.mul_div_cancel' (Nat.dvd_of_mod_eq_zero hx)
 rw [h1] at h
 exact h.symm
theorem bits_or (x y k : Nat) (hx : x % 2 ^ k = 0) (hy : y < 2 ^ k) (h : x + y < 4294967296) : bits .or .u32 (x : Int) (y : Int) = ((x + y : Nat) : Int):=by
 show IntKind.u32.wrap ((BitVec.ofInt 32 (x : Int) ||| BitVec.ofInt 32 (y : Int)).toNat : Int) = _
 rw [BitVec.toNat_or,BitVec.ofInt_natCast,BitVec.ofInt_natCast,BitVec.toNat_ofNat,BitVec.toNat_ofNat,Nat.mod_eq_of_lt (by omega),Nat.mod_eq_of_lt (by omega),or_hi x y k hx hy,w32 _ h]
def rdV (g off : Nat) (bs : List UInt8) (c : Nat) : Value:=if off < bs.length ∨ off = 0 then .slice (some ⟨g,off,none⟩) (bs.length - off) (big + c) else .slice (some ⟨g,0,some c⟩) 0 (big + c)
theorem rnC_big (σ : Nat → Nat) (c : Nat) : rnC σ (big + c) = big + σ c:=by
 unfold rnC
 rw [blt_no (Nat.le_add_right _ _),Nat.add_sub_cancel_left]; rfl
theorem rdV_rn (σ : Nat → Nat) (d g off : Nat) (bs : List UInt8) (c : Nat) : rnV σ d (rdV g off bs c) = rdV (σ g) off bs (σ c):=by
 unfold rdV
 split <;> cases d <;> simp only [rr, tt, rnV,Option.map_some,rnA,rnC_big,Option.map_none]
theorem rdV_ok {p : Nat → Bool} {d g off : Nat} {bs : List UInt8} {c : Nat} (h1 : p g = true) (h2 : p c = true) : okV p d (rdV g off bs c) = true:=by
 unfold rdV
 split <;> cases d <;> simp [okV,bndA,h1,h2,Nat.add_sub_cancel_left]
theorem rdV_bnd {p : Nat → Bool} {g off : Nat} {bs : List UInt8} {c : Nat} (h1 : p g = true) (h2 : p c = true) : bnd p (rdV g off bs c) = true:=okV_bnd 0 _ (rdV_ok h1 h2)
def numIs (w off : Nat) (bs : List UInt8) : Bool:=decide (w ≤ bs.length - off)
def numV (w off : Nat) (bs : List UInt8) : Nat:=bif numIs w off bs then leV w (bs.drop off) else 0
def numO (w off : Nat) (bs : List UInt8) : Nat:=bif numIs w off bs then off + w else off
def rdH (off : Nat) (bs : List UInt8) (c : Nat) : Sy.Heap:=[(64,⟨true,none,[rdV 65 off bs c],none⟩)]
def rdHH (off : Nat) (bs : List UInt8) : Sy.Heap:=[(64,⟨true,none,[rdV 65 off bs 66],none⟩),(65,⟨false,some (0,0),u8s bs,none⟩)]
def numC (w off : Nat) (bs : List UInt8) : Con :=
 ⟨[.pointer (some ⟨64,0,none⟩),.int .i64 (w : Int)],67,rdHH off bs,[(66,bs.length - off)],.tuple ⟨[.int .u32 (numV w off bs : Nat),.bool (numIs w off bs)]⟩,68,rdH (numO w off bs) bs 67,[(67,bs.length - numO w off bs)]⟩
def nuσ (l : Nat) : Nat:=if l = 67 then 69 else l
def nuτ (l : Nat) : Nat:=if l = 67 then 66 else l
theorem num_wf (w off : Nat) (bs : List UInt8) : (numC w off bs).Wf 3:=by
 refine ⟨by show NG ≤ 67; decide,by show 67 ≤ 68; omega,⟨⟨rfl,rfl,fun v hv => ?_⟩,⟨rfl,rfl,flat_bnd (u8s_flat bs)⟩,trivial⟩,rfl,rfl,rfl,by kernel_rfl,by kernel_rfl,fun x hx v hv => ?_⟩
 ·obtain rfl:=List.mem_singleton.1 hv; exact rdV_bnd rfl rfl
 ·obtain rfl:=List.mem_singleton.1 hx
  obtain rfl:=List.mem_singleton.1 hv; exact rdV_ok rfl rfl
theorem num_any {w off : Nat} {bs : List UInt8} {T : List (Nat × Bool)} {h1 : Sy.Heap} {n : Nat} {lo1 : List (Nat × Nat)} {k : Nat} {q : Prop} {c : Nat} {σ : Nat → Nat} (hl : bs.length ≤ 1000000000)
  (h : evF Try.prog noBase noLoop 100 10 41 (numC w off bs).args ⟨67,rdHH off bs,[(66,bs.length - off)],0,T,0,True⟩ = some ((numC w off bs).res,⟨n,(64,⟨true,none,[rdV 65 (numO w off bs) bs c],none⟩) :: h1,(c,bs.length - numO w off bs) :: lo1,0,[],k,q⟩)) (hq : q)
  (h0 : ∀ l,l < NG → σ l = l) (h64 : σ 64 = 64) (h65 : σ 65 = 65) (h67 : σ 67 = c) : ConOk Try.prog 41 3 (numC w off bs):=by
 refine conOk_run (run_ok (L:=100) i_names (noBase_ok _) (noLoop_ok _) 10) (num_wf w off bs) (T:=T) h hq (p:=fun l => Nat.blt l 68) (σ:=σ) ?_
 have k64 : keeps 67 68 σ (fun l => Nat.blt l 68) 64 = true:=by unfold keeps; rw [h64]; rfl
 have k65 : keeps 67 68 σ (fun l => Nat.blt l 68) 65 = true:=by unfold keeps; rw [h65]; rfl
 have k67 : keeps 67 68 σ (fun l => Nat.blt l 68) 67 = true:=rfl
 refine ⟨h0,⟨⟨rfl,by simp only [rr, tt, List.all_cons,List.all_nil,Bool.and_true]; exact rdV_ok rfl rfl,rfl,?_⟩,trivial⟩,rfl,⟨⟨rfl,?_⟩,trivial⟩,⟨rfl,rfl⟩,rfl,⟨⟨k64,rfl,fun v hv => ?_⟩,trivial⟩,by simp only [rr, tt, numC,List.all_cons,List.all_nil,k67,Bool.and_self],okV_bnd 3 _ rfl,fun x hx hrw => ?_⟩
 ·show (match Sy.look _ (σ 64) with | none => False | some k1 => _)
  rw [h64]
  refine ⟨rfl,rfl,trivial,?_⟩
  simp only [rr, tt, List.map_cons,List.map_nil,rdV_rn,h65,h67]
 ·show loHas _ (σ 67) _
  rw [h67]
  show bif Nat.beq c c then _ else _
  rw [Nat.beq_refl]; exact Nat.le_refl _
 ·obtain rfl:=List.mem_singleton.1 hv; exact rdV_bnd k65 k67
 ·obtain rfl:=List.mem_singleton.1 hx; cases hrw
theorem blt_f {a b : Nat} (h : b ≤ a) : Nat.blt a b = false:=blt_no h
theorem num_1 (off : Nat) (bs : List UInt8) (hl : bs.length ≤ 1000000000) (ho : off ≤ 1000000000) : ConOk Try.prog 41 3 (numC 1 off bs):=by
 by_cases hA : off < bs.length ∨ off = 0
 ·have hV : rdHH off bs = rdA bs off (bs.length - off):=by unfold rdHH rdA rdV; rw [if_pos hA]
  by_cases hw : 1 ≤ bs.length - off
  ·have hI : numIs 1 off bs = true:=by unfold numIs; simp [hw]
   have hO : numO 1 off bs = off + 1:=by unfold numO; rw [hI]; rfl
   have hN : numV 1 off bs = leV 1 (bs.drop off):=by unfold numV; rw [hI]; rfl
   have z0:=byN_lt bs off
   have z1:=byN_lt bs (off + 1)
   have z2:=byN_lt bs (off + 2)
   have z3:=byN_lt bs (off + 3)
   have v0:=w32 (byN bs off) (by omega)
   have v1:=w32 (byN bs (off + 1)) (by omega)
   have v2:=w32 (byN bs (off + 2)) (by omega)
   have v3:=w32 (byN bs (off + 3)) (by omega)
   have y1 : ((byN bs (off + 1) : Nat) : Int) * 256 = ((byN bs (off + 1) * 256 : Nat) : Int):=by omega
   have y2 : ((byN bs (off + 2) : Nat) : Int) * 65536 = ((byN bs (off + 2) * 65536 : Nat) : Int):=by omega
   have y3 : ((byN bs (off + 3) : Nat) : Int) * 16777216 = ((byN bs (off + 3) * 16777216 : Nat) : Int):=by omega
   have u1:=w32 (byN bs (off + 1) * 256) (by omega)
   have u2:=w32 (byN bs (off + 2) * 65536) (by omega)
   have u3:=w32 (byN bs (off + 3) * 16777216) (by omega)
   have b32:=bits_or (byN bs (off + 3) * 16777216) (byN bs (off + 2) * 65536) 24 (by omega) (by omega) (by omega)
   have b31:=bits_or (byN bs (off + 3) * 16777216 + byN bs (off + 2) * 65536) (byN bs (off + 1) * 256) 16 (by omega) (by omega) (by omega)
   have b30:=bits_or (byN bs (off + 3) * 16777216 + byN bs (off + 2) * 65536 + byN bs (off + 1) * 256) (byN bs off) 8 (by omega) (by omega) (by omega)
   have b21:=bits_or 0 (byN bs (off + 1) * 256) 16 (by omega) (by omega) (by omega)
   have b20:=bits_or (byN bs (off + 1) * 256) (byN bs off) 8 (by omega) (by omega) (by omega)
   have b10:=bits_or 0 (byN bs off) 8 (by omega) (by omega) (by omega)
   rw [Nat.zero_add] at b21 b10
   have e0 : (((0 : Nat)) : Int) = 0:=rfl
   rw [e0] at b21 b10
   have hv : (byN bs off : Nat) = leV 1 (bs.drop off):=by have:=leV_1 bs off; omega
   have d1 : decide ((1 : Int) ≤ ((bs.length - off : Nat) : Int)) = true:=by simp; omega
   have d2 : decide ((1 : Int) > ((bs.length - off : Nat) : Int)) = false:=by simp; omega
   have d3 : decide ((0 : Int) > IntKind.i64.wrap (((bs.length - off : Nat) : Int) - (1 : Int))) = false:=by rw [wrap_i64 (by omega) (by omega)]; simp; omega
   by_cases hx : 1 < bs.length - off
   ·have hh:=nma1 bs off (bs.length - off)
    simp only [rr, tt, Nat.add_zero,u8s_at,v0,v1,v2,v3,y1,y2,y3,u1,u2,u3,b32,b31,b30,b21,b20,b10] at hh
    rw [← hV,hv,← hN] at hh
    have hc : [Value.slice (some { block:=65,off:=off + 1 }) (bs.length - off - 1) 9223372036854775877] = [rdV 65 (numO 1 off bs) bs 69]:=by rw [hO]; unfold rdV; rw [if_pos (.inl (by omega)),Nat.sub_add_eq]; rfl
    have hl2 : bs.length - off - 1 = bs.length - numO 1 off bs:=by rw [hO]; omega
    rw [hc,hl2] at hh
    refine num_any hl (by show _ = some (Value.tuple ⟨[.int .u32 (numV 1 off bs : Nat),.bool (numIs 1 off bs)]⟩,_); rw [hI]; exact hh) ?_ (σ:=nuσ) (fun l hlt => ?_) rfl rfl rfl
    ·simp (disch:=omega) only [rr, tt, isU8_any,u8s_has,u8s_like,d1,d2,d3,ble_t,blt_t,beq_t,decide_eq_true,Nat.zero_lt_one,Bool.and_self,cond_true,and_true,true_and,and_self]
    ·unfold nuσ; have : NG ≤ 66:=by decide
     rw [if_neg (by omega)]
   ·have hh:=nmb1 bs off (bs.length - off)
    simp only [rr, tt, Nat.add_zero,u8s_at,v0,v1,v2,v3,y1,y2,y3,u1,u2,u3,b32,b31,b30,b21,b20,b10] at hh
    rw [← hV,hv,← hN] at hh
    have hc : [Value.slice (some { block:=65,off:=0,spot:=some 69 }) (bs.length - off - 1) 9223372036854775877] = [rdV 65 (numO 1 off bs) bs 69]:=by rw [hO]; unfold rdV; rw [if_neg (by omega),show bs.length - off - 1 = 0 by omega]; rfl
    have hl2 : bs.length - off - 1 = bs.length - numO 1 off bs:=by rw [hO]; omega
    rw [hc,hl2] at hh
    refine num_any hl (by show _ = some (Value.tuple ⟨[.int .u32 (numV 1 off bs : Nat),.bool (numIs 1 off bs)]⟩,_); rw [hI]; exact hh) ?_ (σ:=nuσ) (fun l hlt => ?_) rfl rfl rfl
    ·simp (disch:=omega) only [rr, tt, isU8_any,u8s_has,u8s_like,d1,d2,d3,ble_t,blt_t,blt_f,beq_t,decide_eq_true,Nat.zero_lt_one,Bool.and_self,cond_true,and_true,true_and,and_self]
    ·unfold nuσ; have : NG ≤ 66:=by decide
     rw [if_neg (by omega)]
  ·have hI : numIs 1 off bs = false:=by unfold numIs; simp; omega
   have hO : numO 1 off bs = off:=by unfold numO; rw [hI]; rfl
   have hN : numV 1 off bs = 0:=by unfold numV; rw [hI]; rfl
   have d3 : decide ((0 : Int) > IntKind.i64.wrap (((bs.length - off : Nat) : Int) - (1 : Int))) = true:=by rw [wrap_i64 (by omega) (by omega)]; simp; omega
   have hh:=nmc1 bs off (bs.length - off)
   rw [← hV] at hh
   have hc : [Value.slice (some { block:=65,off:=off }) (bs.length - off) 9223372036854775874] = [rdV 65 (numO 1 off bs) bs 66]:=by rw [hO]; unfold rdV; rw [if_pos hA]; rfl
   rw [hc] at hh
   refine num_any hl (by show _ = some (Value.tuple ⟨[.int .u32 (numV 1 off bs : Nat),.bool (numIs 1 off bs)]⟩,_); rw [hI,hN,hO]; rw [hO] at hh; exact hh) ?_ (σ:=nuτ) (fun l hlt => ?_) rfl rfl rfl
   ·simp only [rr, tt, d3,and_true,true_and,and_self]
   ·unfold nuτ; have : NG ≤ 66:=by decide
    rw [if_neg (by omega)]
 ·have hV : rdHH off bs = rdE bs:=by unfold rdHH rdE rdV; rw [if_neg hA]
  have hI : numIs 1 off bs = false:=by unfold numIs; simp; omega
  have hO : numO 1 off bs = off:=by unfold numO; rw [hI]; rfl
  have hN : numV 1 off bs = 0:=by unfold numV; rw [hI]; rfl
  have hh:=nme1 bs
  rw [← hV] at hh
  have hc : [Value.slice (some { block:=65,off:=0,spot:=some 66 }) 0 9223372036854775874] = [rdV 65 (numO 1 off bs) bs 66]:=by rw [hO]; unfold rdV; rw [if_neg hA]; rfl
  rw [hc] at hh
  have h00 : bs.length - off = 0:=by omega
  refine num_any hl (by rw [h00]; show _ = some (Value.tuple ⟨[.int .u32 (numV 1 off bs : Nat),.bool (numIs 1 off bs)]⟩,_); rw [hI,hN,hO,h00]; rw [hO] at hh; exact hh) ?_ (σ:=nuτ) (fun l hlt => ?_) rfl rfl rfl
  ·simp only [rr, tt, and_true,true_and,and_self]
  ·unfold nuτ; have : NG ≤ 66:=by decide
   rw [if_neg (by omega)]
theorem num_2 (off : Nat) (bs : List UInt8) (hl : bs.length ≤ 1000000000) (ho : off ≤ 1000000000) : ConOk Try.prog 41 3 (numC 2 off bs):=by
 by_cases hA : off < bs.length ∨ off = 0
 ·have hV : rdHH off bs = rdA bs off (bs.length - off):=by unfold rdHH rdA rdV; rw [if_pos hA]
  by_cases hw : 2 ≤ bs.length - off
  ·have hI : numIs 2 off bs = true:=by unfold numIs; simp [hw]
   have hO : numO 2 off bs = off + 2:=by unfold numO; rw [hI]; rfl
   have hN : numV 2 off bs = leV 2 (bs.drop off):=by unfold numV; rw [hI]; rfl
   have z0:=byN_lt bs off
   have z1:=byN_lt bs (off + 1)
   have z2:=byN_lt bs (off + 2)
   have z3:=byN_lt bs (off + 3)
   have v0:=w32 (byN bs off) (by omega)
   have v1:=w32 (byN bs (off + 1)) (by omega)
   have v2:=w32 (byN bs (off + 2)) (by omega)
   have v3:=w32 (byN bs (off + 3)) (by omega)
   have y1 : ((byN bs (off + 1) : Nat) : Int) * 256 = ((byN bs (off + 1) * 256 : Nat) : Int):=by omega
   have y2 : ((byN bs (off + 2) : Nat) : Int) * 65536 = ((byN bs (off + 2) * 65536 : Nat) : Int):=by omega
   have y3 : ((byN bs (off + 3) : Nat) : Int) * 16777216 = ((byN bs (off + 3) * 16777216 : Nat) : Int):=by omega
   have u1:=w32 (byN bs (off + 1) * 256) (by omega)
   have u2:=w32 (byN bs (off + 2) * 65536) (by omega)
   have u3:=w32 (byN bs (off + 3) * 16777216) (by omega)
   have b32:=bits_or (byN bs (off + 3) * 16777216) (byN bs (off + 2) * 65536) 24 (by omega) (by omega) (by omega)
   have b31:=bits_or (byN bs (off + 3) * 16777216 + byN bs (off + 2) * 65536) (byN bs (off + 1) * 256) 16 (by omega) (by omega) (by omega)
   have b30:=bits_or (byN bs (off + 3) * 16777216 + byN bs (off + 2) * 65536 + byN bs (off + 1) * 256) (byN bs off) 8 (by omega) (by omega) (by omega)
   have b21:=bits_or 0 (byN bs (off + 1) * 256) 16 (by omega) (by omega) (by omega)
   have b20:=bits_or (byN bs (off + 1) * 256) (byN bs off) 8 (by omega) (by omega) (by omega)
   have b10:=bits_or 0 (byN bs off) 8 (by omega) (by omega) (by omega)
   rw [Nat.zero_add] at b21 b10
   have e0 : (((0 : Nat)) : Int) = 0:=rfl
   rw [e0] at b21 b10
   have hv : (byN bs (off + 1) * 256 + byN bs off : Nat) = leV 2 (bs.drop off):=by have:=leV_2 bs off; omega
   have d1 : decide ((2 : Int) ≤ ((bs.length - off : Nat) : Int)) = true:=by simp; omega
   have d2 : decide ((2 : Int) > ((bs.length - off : Nat) : Int)) = false:=by simp; omega
   have d3 : decide ((0 : Int) > IntKind.i64.wrap (((bs.length - off : Nat) : Int) - (2 : Int))) = false:=by rw [wrap_i64 (by omega) (by omega)]; simp; omega
   by_cases hx : 2 < bs.length - off
   ·have hh:=nma2 bs off (bs.length - off)
    simp only [rr, tt, Nat.add_zero,u8s_at,v0,v1,v2,v3,y1,y2,y3,u1,u2,u3,b32,b31,b30,b21,b20,b10] at hh
    rw [← hV,hv,← hN] at hh
    have hc : [Value.slice (some { block:=65,off:=off + 2 }) (bs.length - off - 2) 9223372036854775877] = [rdV 65 (numO 2 off bs) bs 69]:=by rw [hO]; unfold rdV; rw [if_pos (.inl (by omega)),Nat.sub_add_eq]; rfl
    have hl2 : bs.length - off - 2 = bs.length - numO 2 off bs:=by rw [hO]; omega
    rw [hc,hl2] at hh
    refine num_any hl (by show _ = some (Value.tuple ⟨[.int .u32 (numV 2 off bs : Nat),.bool (numIs 2 off bs)]⟩,_); rw [hI]; exact hh) ?_ (σ:=nuσ) (fun l hlt => ?_) rfl rfl rfl
    ·simp (disch:=omega) only [rr, tt, isU8_any,u8s_has,u8s_like,d1,d2,d3,ble_t,blt_t,beq_t,decide_eq_true,Nat.zero_lt_one,Bool.and_self,cond_true,and_true,true_and,and_self]
    ·unfold nuσ; have : NG ≤ 66:=by decide
     rw [if_neg (by omega)]
   ·have hh:=nmb2 bs off (bs.length - off)
    simp only [rr, tt, Nat.add_zero,u8s_at,v0,v1,v2,v3,y1,y2,y3,u1,u2,u3,b32,b31,b30,b21,b20,b10] at hh
    rw [← hV,hv,← hN] at hh
    have hc : [Value.slice (some { block:=65,off:=0,spot:=some 69 }) (bs.length - off - 2) 9223372036854775877] = [rdV 65 (numO 2 off bs) bs 69]:=by rw [hO]; unfold rdV; rw [if_neg (by omega),show bs.length - off - 2 = 0 by omega]; rfl
    have hl2 : bs.length - off - 2 = bs.length - numO 2 off bs:=by rw [hO]; omega
    rw [hc,hl2] at hh
    refine num_any hl (by show _ = some (Value.tuple ⟨[.int .u32 (numV 2 off bs : Nat),.bool (numIs 2 off bs)]⟩,_); rw [hI]; exact hh) ?_ (σ:=nuσ) (fun l hlt => ?_) rfl rfl rfl
    ·simp (disch:=omega) only [rr, tt, isU8_any,u8s_has,u8s_like,d1,d2,d3,ble_t,blt_t,blt_f,beq_t,decide_eq_true,Nat.zero_lt_one,Bool.and_self,cond_true,and_true,true_and,and_self]
    ·unfold nuσ; have : NG ≤ 66:=by decide
     rw [if_neg (by omega)]
  ·have hI : numIs 2 off bs = false:=by unfold numIs; simp; omega
   have hO : numO 2 off bs = off:=by unfold numO; rw [hI]; rfl
   have hN : numV 2 off bs = 0:=by unfold numV; rw [hI]; rfl
   have d3 : decide ((0 : Int) > IntKind.i64.wrap (((bs.length - off : Nat) : Int) - (2 : Int))) = true:=by rw [wrap_i64 (by omega) (by omega)]; simp; omega
   have hh:=nmc2 bs off (bs.length - off)
   rw [← hV] at hh
   have hc : [Value.slice (some { block:=65,off:=off }) (bs.length - off) 9223372036854775874] = [rdV 65 (numO 2 off bs) bs 66]:=by rw [hO]; unfold rdV; rw [if_pos hA]; rfl
   rw [hc] at hh
   refine num_any hl (by show _ = some (Value.tuple ⟨[.int .u32 (numV 2 off bs : Nat),.bool (numIs 2 off bs)]⟩,_); rw [hI,hN,hO]; rw [hO] at hh; exact hh) ?_ (σ:=nuτ) (fun l hlt => ?_) rfl rfl rfl
   ·simp only [rr, tt, d3,and_true,true_and,and_self]
   ·unfold nuτ; have : NG ≤ 66:=by decide
    rw [if_neg (by omega)]
 ·have hV : rdHH off bs = rdE bs:=by unfold rdHH rdE rdV; rw [if_neg hA]
  have hI : numIs 2 off bs = false:=by unfold numIs; simp; omega
  have hO : numO 2 off bs = off:=by unfold numO; rw [hI]; rfl
  have hN : numV 2 off bs = 0:=by unfold numV; rw [hI]; rfl
  have hh:=nme2 bs
  rw [← hV] at hh
  have hc : [Value.slice (some { block:=65,off:=0,spot:=some 66 }) 0 9223372036854775874] = [rdV 65 (numO 2 off bs) bs 66]:=by rw [hO]; unfold rdV; rw [if_neg hA]; rfl
  rw [hc] at hh
  have h00 : bs.length - off = 0:=by omega
  refine num_any hl (by rw [h00]; show _ = some (Value.tuple ⟨[.int .u32 (numV 2 off bs : Nat),.bool (numIs 2 off bs)]⟩,_); rw [hI,hN,hO,h00]; rw [hO] at hh; exact hh) ?_ (σ:=nuτ) (fun l hlt => ?_) rfl rfl rfl
  ·simp only [rr, tt, and_true,true_and,and_self]
  ·unfold nuτ; have : NG ≤ 66:=by decide
   rw [if_neg (by omega)]
theorem num_4 (off : Nat) (bs : List UInt8) (hl : bs.length ≤ 1000000000) (ho : off ≤ 1000000000) : ConOk Try.prog 41 3 (numC 4 off bs):=by
 by_cases hA : off < bs.length ∨ off = 0
 ·have hV : rdHH off bs = rdA bs off (bs.length - off):=by unfold rdHH rdA rdV; rw [if_pos hA]
  by_cases hw : 4 ≤ bs.length - off
  ·have hI : numIs 4 off bs = true:=by unfold numIs; simp [hw]
   have hO : numO 4 off bs = off + 4:=by unfold numO; rw [hI]; rfl
   have hN : numV 4 off bs = leV 4 (bs.drop off):=by unfold numV; rw [hI]; rfl
   have z0:=byN_lt bs off
   have z1:=byN_lt bs (off + 1)
   have z2:=byN_lt bs (off + 2)
   have z3:=byN_lt bs (off + 3)
   have v0:=w32 (byN bs off) (by omega)
   have v1:=w32 (byN bs (off + 1)) (by omega)
   have v2:=w32 (byN bs (off + 2)) (by omega)
   have v3:=w32 (byN bs (off + 3)) (by omega)
   have y1 : ((byN bs (off + 1) : Nat) : Int) * 256 = ((byN bs (off + 1) * 256 : Nat) : Int):=by omega
   have y2 : ((byN bs (off + 2) : Nat) : Int) * 65536 = ((byN bs (off + 2) * 65536 : Nat) : Int):=by omega
   have y3 : ((byN bs (off + 3) : Nat) : Int) * 16777216 = ((byN bs (off + 3) * 16777216 : Nat) : Int):=by omega
   have u1:=w32 (byN bs (off + 1) * 256) (by omega)
   have u2:=w32 (byN bs (off + 2) * 65536) (by omega)
   have u3:=w32 (byN bs (off + 3) * 16777216) (by omega)
   have b32:=bits_or (byN bs (off + 3) * 16777216) (byN bs (off + 2) * 65536) 24 (by omega) (by omega) (by omega)
   have b31:=bits_or (byN bs (off + 3) * 16777216 + byN bs (off + 2) * 65536) (byN bs (off + 1) * 256) 16 (by omega) (by omega) (by omega)
   have b30:=bits_or (byN bs (off + 3) * 16777216 + byN bs (off + 2) * 65536 + byN bs (off + 1) * 256) (byN bs off) 8 (by omega) (by omega) (by omega)
   have b21:=bits_or 0 (byN bs (off + 1) * 256) 16 (by omega) (by omega) (by omega)
   have b20:=bits_or (byN bs (off + 1) * 256) (byN bs off) 8 (by omega) (by omega) (by omega)
   have b10:=bits_or 0 (byN bs off) 8 (by omega) (by omega) (by omega)
   rw [Nat.zero_add] at b21 b10
   have e0 : (((0 : Nat)) : Int) = 0:=rfl
   rw [e0] at b21 b10
   have hv : (byN bs (off + 3) * 16777216 + byN bs (off + 2) * 65536 + byN bs (off + 1) * 256 + byN bs off : Nat) = leV 4 (bs.drop off):=by have:=leV_4 bs off; omega
   have d1 : decide ((4 : Int) ≤ ((bs.length - off : Nat) : Int)) = true:=by simp; omega
   have d2 : decide ((4 : Int) > ((bs.length - off : Nat) : Int)) = false:=by simp; omega
   have d3 : decide ((0 : Int) > IntKind.i64.wrap (((bs.length - off : Nat) : Int) - (4 : Int))) = false:=by rw [wrap_i64 (by omega) (by omega)]; simp; omega
   by_cases hx : 4 < bs.length - off
   ·have hh:=nma4 bs off (bs.length - off)
    simp only [rr, tt, Nat.add_zero,u8s_at,v0,v1,v2,v3,y1,y2,y3,u1,u2,u3,b32,b31,b30,b21,b20,b10] at hh
    rw [← hV,hv,← hN] at hh
    have hc : [Value.slice (some { block:=65,off:=off + 4 }) (bs.length - off - 4) 9223372036854775877] = [rdV 65 (numO 4 off bs) bs 69]:=by rw [hO]; unfold rdV; rw [if_pos (.inl (by omega)),Nat.sub_add_eq]; rfl
    have hl2 : bs.length - off - 4 = bs.length - numO 4 off bs:=by rw [hO]; omega
    rw [hc,hl2] at hh
    refine num_any hl (by show _ = some (Value.tuple ⟨[.int .u32 (numV 4 off bs : Nat),.bool (numIs 4 off bs)]⟩,_); rw [hI]; exact hh) ?_ (σ:=nuσ) (fun l hlt => ?_) rfl rfl rfl
    ·simp (disch:=omega) only [rr, tt, isU8_any,u8s_has,u8s_like,d1,d2,d3,ble_t,blt_t,beq_t,decide_eq_true,Nat.zero_lt_one,Bool.and_self,cond_true,and_true,true_and,and_self]
    ·unfold nuσ; have : NG ≤ 66:=by decide
     rw [if_neg (by omega)]
   ·have hh:=nmb4 bs off (bs.length - off)
    simp only [rr, tt, Nat.add_zero,u8s_at,v0,v1,v2,v3,y1,y2,y3,u1,u2,u3,b32,b31,b30,b21,b20,b10] at hh
    rw [← hV,hv,← hN] at hh
    have hc : [Value.slice (some { block:=65,off:=0,spot:=some 69 }) (bs.length - off - 4) 9223372036854775877] = [rdV 65 (numO 4 off bs) bs 69]:=by rw [hO]; unfold rdV; rw [if_neg (by omega),show bs.length - off - 4 = 0 by omega]; rfl
    have hl2 : bs.length - off - 4 = bs.length - numO 4 off bs:=by rw [hO]; omega
    rw [hc,hl2] at hh
    refine num_any hl (by show _ = some (Value.tuple ⟨[.int .u32 (numV 4 off bs : Nat),.bool (numIs 4 off bs)]⟩,_); rw [hI]; exact hh) ?_ (σ:=nuσ) (fun l hlt => ?_) rfl rfl rfl
    ·simp (disch:=omega) only [rr, tt, isU8_any,u8s_has,u8s_like,d1,d2,d3,ble_t,blt_t,blt_f,beq_t,decide_eq_true,Nat.zero_lt_one,Bool.and_self,cond_true,and_true,true_and,and_self]
    ·unfold nuσ; have : NG ≤ 66:=by decide
     rw [if_neg (by omega)]
  ·have hI : numIs 4 off bs = false:=by unfold numIs; simp; omega
   have hO : numO 4 off bs = off:=by unfold numO; rw [hI]; rfl
   have hN : numV 4 off bs = 0:=by unfold numV; rw [hI]; rfl
   have d3 : decide ((0 : Int) > IntKind.i64.wrap (((bs.length - off : Nat) : Int) - (4 : Int))) = true:=by rw [wrap_i64 (by omega) (by omega)]; simp; omega
   have hh:=nmc4 bs off (bs.length - off)
   rw [← hV] at hh
   have hc : [Value.slice (some { block:=65,off:=off }) (bs.length - off) 9223372036854775874] = [rdV 65 (numO 4 off bs) bs 66]:=by rw [hO]; unfold rdV; rw [if_pos hA]; rfl
   rw [hc] at hh
   refine num_any hl (by show _ = some (Value.tuple ⟨[.int .u32 (numV 4 off bs : Nat),.bool (numIs 4 off bs)]⟩,_); rw [hI,hN,hO]; rw [hO] at hh; exact hh) ?_ (σ:=nuτ) (fun l hlt => ?_) rfl rfl rfl
   ·simp only [rr, tt, d3,and_true,true_and,and_self]
   ·unfold nuτ; have : NG ≤ 66:=by decide
    rw [if_neg (by omega)]
 ·have hV : rdHH off bs = rdE bs:=by unfold rdHH rdE rdV; rw [if_neg hA]
  have hI : numIs 4 off bs = false:=by unfold numIs; simp; omega
  have hO : numO 4 off bs = off:=by unfold numO; rw [hI]; rfl
  have hN : numV 4 off bs = 0:=by unfold numV; rw [hI]; rfl
  have hh:=nme4 bs
  rw [← hV] at hh
  have hc : [Value.slice (some { block:=65,off:=0,spot:=some 66 }) 0 9223372036854775874] = [rdV 65 (numO 4 off bs) bs 66]:=by rw [hO]; unfold rdV; rw [if_neg hA]; rfl
  rw [hc] at hh
  have h00 : bs.length - off = 0:=by omega
  refine num_any hl (by rw [h00]; show _ = some (Value.tuple ⟨[.int .u32 (numV 4 off bs : Nat),.bool (numIs 4 off bs)]⟩,_); rw [hI,hN,hO,h00]; rw [hO] at hh; exact hh) ?_ (σ:=nuτ) (fun l hlt => ?_) rfl rfl rfl
  ·simp only [rr, tt, and_true,true_and,and_self]
  ·unfold nuτ; have : NG ≤ 66:=by decide
   rw [if_neg (by omega)]
end Go.Proofs.Ytdljpnebpoaeiaa
namespace Go.Proofs.Ytdljpnebpoaeiaa
open Go.RowKit
open Sy
structure NumOk (w off : Nat) (bs : List UInt8) : Prop where
 w : w = 1 ∨ w = 2 ∨ w = 4
 off : off ≤ 1000000000
 len : bs.length ≤ 1000000000
theorem num_con {w off : Nat} {bs : List UInt8} (h : NumOk w off bs) : ConOk Try.prog 41 3 (numC w off bs):=by
 obtain ⟨hw,ho,hl⟩:=h
 rcases hw with rfl | rfl | rfl
 ·exact num_1 off bs hl ho
 ·exact num_2 off bs hl ho
 ·exact num_4 off bs hl ho
def selNum (g c off : Nat) (bs : List UInt8) : SelC:=fun f args _ =>
 match args with
 | [.pointer (some i),.int _ w] => bif Nat.beq f 41 then some (numC w.toNat off bs,[i.block,g,c],NumOk w.toNat off bs) else none
 | _ => none
theorem selNum_ok (g c off : Nat) (bs : List UInt8) : SelOk Try.prog 3 (selNum g c off bs):=by
 intro f args s x ρ q h hq
 unfold selNum at h
 split at h
 ·obtain ⟨h2,h3⟩:=bif_some h
  have h2:=Nat.eq_of_beq_eq_true h2
  subst h2
  cases h3
  exact num_con hq
 ·cases h
def ncH (off : Nat) (b : Bool) (bs : List UInt8) : Sy.Heap:=[(64,⟨false,none,[.pointer (some ⟨66,0,none⟩)],none⟩),(65,⟨true,none,[.bool b],none⟩),(66,⟨true,none,[rdV 67 off bs 68],none⟩),(67,⟨false,some (0,0),u8s bs,none⟩)]
theorem nc_t (w off : Nat) (bs : List UInt8) : evF Try.prog (baseC 3 (selNum 67 68 off bs)) noLoop 100 10 40 [Value.int .i64 (↑w),.pointer (some ⟨64,0,none⟩),.pointer (some ⟨65,0,none⟩)] ⟨69,ncH off true bs,[(68,bs.length - off)],0,[],0,True⟩ = some (Value.int .u32 (↑(numV (↑w:Int).toNat off bs):Int),{ n:=70,h:=[(66,⟨true,none,[rnV (lift 67 69 [66,67,68]) 3 (rdV 65 (numO (↑w:Int).toNat off bs) bs 67)],none⟩),(64,⟨false,none,[Value.pointer (some ⟨66,0,none⟩)],none⟩),(65,⟨true,none,[Value.bool (numIs (↑w:Int).toNat off bs)],none⟩),(67,⟨false,some (0,0),u8s bs,none⟩)],lo:=[(69,bs.length - numO (↑w:Int).toNat off bs),(68,bs.length - off)],esc:=0,T:=[],k:=0,O:=True∧NumOk (↑w:Int).toNat off bs∧(rr (Value.pointer (some ⟨66,0,none⟩))∧Value.int .i64 (↑w) = Value.int .i64 (↑(↑w:Int).toNat:Int)∧True)∧((tt∧(okV (fun l => l.blt 67) 3 (rdV 65 off bs 66) && true) = true∧tt∧tt∧tt∧True∧[rdV 67 off bs 68] = [rnV (lift 67 69 [66,67,68]) 3 (rdV 65 off bs 66)])∧(tt∧(u8s bs).all (okV (fun l => l.blt 67) 3) = true∧tt∧tt∧tt∧True∧u8s bs = List.map (rnV (lift 67 69 [66,67,68]) 3) (u8s bs))∧True)∧(tt∧bs.length - off ≤ bs.length - off)∧True : St }):=by kernel_rfl
theorem nc_f (w off : Nat) (bs : List UInt8) : evF Try.prog (baseC 3 (selNum 67 68 off bs)) noLoop 100 10 40 [Value.int .i64 (↑w),.pointer (some ⟨64,0,none⟩),.pointer (some ⟨65,0,none⟩)] ⟨69,ncH off false bs,[(68,bs.length - off)],0,[],0,True⟩ = some (Value.int .u32 (↑(numV (↑w:Int).toNat off bs):Int),{ n:=70,h:=[(66,⟨true,none,[rnV (lift 67 69 [66,67,68]) 3 (rdV 65 (numO (↑w:Int).toNat off bs) bs 67)],none⟩),(64,⟨false,none,[Value.pointer (some ⟨66,0,none⟩)],none⟩),(65,⟨true,none,[Value.bool false],none⟩),(67,⟨false,some (0,0),u8s bs,none⟩)],lo:=[(69,bs.length - numO (↑w:Int).toNat off bs),(68,bs.length - off)],esc:=0,T:=[],k:=0,O:=True∧NumOk (↑w:Int).toNat off bs∧(rr (Value.pointer (some ⟨66,0,none⟩))∧Value.int .i64 (↑w) = Value.int .i64 (↑(↑w:Int).toNat:Int)∧True)∧((tt∧(okV (fun l => l.blt 67) 3 (rdV 65 off bs 66) && true) = true∧tt∧tt∧tt∧True∧[rdV 67 off bs 68] = [rnV (lift 67 69 [66,67,68]) 3 (rdV 65 off bs 66)])∧(tt∧(u8s bs).all (okV (fun l => l.blt 67) 3) = true∧tt∧tt∧tt∧True∧u8s bs = List.map (rnV (lift 67 69 [66,67,68]) 3) (u8s bs))∧True)∧(tt∧bs.length - off ≤ bs.length - off)∧True : St }):=by kernel_rfl
def nccC (w off : Nat) (b : Bool) (bs : List UInt8) : Con :=
 ⟨[.int .i64 (w : Int),.pointer (some ⟨64,0,none⟩),.pointer (some ⟨65,0,none⟩)],69,ncH off b bs,[(68,bs.length - off)],.int .u32 (numV w off bs : Nat),70,
  [(65,⟨true,none,[.bool (b && numIs w off bs)],none⟩),(66,⟨true,none,[rdV 67 (numO w off bs) bs 69],none⟩)],[(69,bs.length - numO w off bs)]⟩
theorem ncc_con (w off : Nat) (b : Bool) (bs : List UInt8) (h : NumOk w off bs) : ConOk Try.prog 40 3 (nccC w off b bs):=by
 have e1 : [rdV 67 off bs 68] = [rnV (lift 67 69 [66,67,68]) 3 (rdV 65 off bs 66)]:=by rw [rdV_rn]; rfl
 have e2 : okV (fun l => Nat.blt l 67) 3 (rdV 65 off bs 66) = true:=rdV_ok rfl rfl
 have f5 : ∀ xs p d,(u8s xs).all (okV p d) = true:=fun xs _ _ => flat_all (u8s_flat xs)
 have f6 : ∀ xs σ d,(u8s xs).map (rnV σ d) = u8s xs:=fun xs _ _ => flat_map (u8s_flat xs)
 have hw : (nccC w off b bs).Wf 3:=by
  refine ⟨by show NG ≤ 69; decide,by show 69 ≤ 70; omega,⟨⟨rfl,rfl,fun v hv => ?_⟩,⟨rfl,rfl,fun v hv => ?_⟩,⟨rfl,rfl,fun v hv => ?_⟩,⟨rfl,rfl,flat_bnd (u8s_flat bs)⟩,trivial⟩,rfl,rfl,rfl,by kernel_rfl,by kernel_rfl,fun x hx v hv => ?_⟩
  ·obtain rfl:=List.mem_singleton.1 hv; exact okV_bnd 3 _ (by kernel_rfl)
  ·obtain rfl:=List.mem_singleton.1 hv; exact okV_bnd 3 _ (by kernel_rfl)
  ·obtain rfl:=List.mem_singleton.1 hv; exact rdV_bnd rfl rfl
  ·simp only [rr, tt, nccC,List.mem_cons,List.not_mem_nil,or_false] at hx
   rcases hx with rfl | rfl
   ·obtain rfl:=List.mem_singleton.1 hv; rfl
   ·obtain rfl:=List.mem_singleton.1 hv; exact rdV_ok rfl rfl
 have hend : ∀ (b' : Bool) (q : Prop) (h64 h67 : Nat × Sy.Blk) (lo : List (Nat × Nat)) (k : Nat) (hb : b' = (b && numIs w off bs)),h64.1 = 64 → (nccC w off b bs).Ends 3 (fun l => Nat.blt l 70) id (.int .u32 (numV w off bs : Nat))
   ⟨70,[(66,⟨true,none,[rdV 67 (numO w off bs) bs 69],none⟩),h64,(65,⟨true,none,[.bool b'],none⟩),h67],(69,bs.length - numO w off bs) :: lo,0,[],k,q⟩:=by
  intro b' q h64 h67 lo k hb h64'
  obtain ⟨a,h64⟩:=h64
  simp only at h64'
  subst h64' hb
  refine ⟨fun _ _ => rfl,⟨⟨rfl,rfl,rfl,⟨rfl,rfl,trivial,rfl⟩⟩,⟨rfl,by simp only [rr, tt, List.all_cons,List.all_nil,Bool.and_true]; exact rdV_ok rfl rfl,rfl,⟨rfl,rfl,trivial,by simp only [rr, tt, List.map_cons,List.map_nil,rdV_rn]; rfl⟩⟩,trivial⟩,rfl,⟨⟨rfl,Nat.le_refl _⟩,trivial⟩,⟨rfl,rfl⟩,rfl,⟨⟨rfl,rfl,fun v hv => ?_⟩,⟨rfl,rfl,fun v hv => ?_⟩,trivial⟩,rfl,bnd_flat0 _ rfl,fun x hx hrw => ?_⟩
  ·obtain rfl:=List.mem_singleton.1 hv; exact bnd_flat0 _ rfl
  ·obtain rfl:=List.mem_singleton.1 hv; exact rdV_bnd rfl rfl
  ·simp only [rr, tt, nccC,List.mem_cons,List.not_mem_nil,or_false] at hx
   rcases hx with rfl | rfl <;> cases hrw
 cases b
 ·have hh:=nc_f w off bs
  simp only [rr, tt, Int.toNat_natCast,rdV_rn] at hh
  refine conOk_run (run_ok (L:=100) i_names (baseC_ok (selNum_ok 67 68 off bs)) (noLoop_ok _) 10) hw (T:=[]) (p:=fun l => Nat.blt l 70) (σ:=id) hh ?_ (hend false _ _ _ _ _ rfl rfl)
  simp only [rr, tt, e2,f5,f6,Bool.and_self,and_true,true_and,and_self,Nat.le_refl]
  exact ⟨h,rfl⟩
 ·have hh:=nc_t w off bs
  simp only [rr, tt, Int.toNat_natCast,rdV_rn] at hh
  refine conOk_run (run_ok (L:=100) i_names (baseC_ok (selNum_ok 67 68 off bs)) (noLoop_ok _) 10) hw (T:=[]) (p:=fun l => Nat.blt l 70) (σ:=id) hh ?_ (hend (numIs w off bs) _ _ _ _ _ rfl rfl)
  simp only [rr, tt, e2,f5,f6,Bool.and_self,and_true,true_and,and_self,Nat.le_refl]
  exact ⟨h,rfl⟩
end Go.Proofs.Ytdljpnebpoaeiaa
namespace Go.Proofs.Ytdljpnebpoaeiaa
open Go.RowKit
open Sy
abbrev Sched:=List (Nat × Nat × Bool × Nat)
def atS (n : Nat) : Sched → Option (Nat × Bool × Nat)
 | [] => none
 | x :: l => bif Nat.beq x.1 n then some x.2 else atS n l
def nccSel (R G : Nat) (L : Sched) (bs : List UInt8) (args : List Value) (s : St) : Option (Con × List Nat × Prop) :=
 match args with
 | [.int _ w,.pointer (some i),.pointer (some j)] => (atS s.n L).bind fun x => some (nccC w.toNat x.1 x.2.1 bs,[i.block,j.block,R,G,x.2.2],NumOk w.toNat x.1 bs)
 | _ => none
def selNcc (R G : Nat) (L : Sched) (bs : List UInt8) : SelC:=fun f args s => bif Nat.beq f 40 then nccSel R G L bs args s else none
theorem selNcc_ok (R G : Nat) (L : Sched) (bs : List UInt8) : SelOk Try.prog 3 (selNcc R G L bs):=by
 intro f args s x ρ q h hq
 unfold selNcc at h
 obtain ⟨h2,h3⟩:=bif_some h
 have h2:=Nat.eq_of_beq_eq_true h2
 subst h2
 unfold nccSel at h3
 split at h3
 ·obtain ⟨y,_,h4⟩:=Option.bind_eq_some_iff.1 h3
  cases h4
  exact ncc_con _ _ _ _ hq
 ·cases h3
def ncG : Value:=.func (.func 40) ⟨[]⟩ ⟨[.pointer (some ⟨65,0,none⟩),.pointer (some ⟨66,0,none⟩)]⟩
theorem okV_mono {p q : Nat → Bool} (h : ∀ l,p l = true → q l = true) : ∀ (d : Nat) (v : Value),okV p d v = true → okV q d v = true:=by
 have hA : ∀ a,bndA p a = true → bndA q a = true:=fun a ha => by
  unfold bndA at *
  rw [Bool.and_eq_true] at *
  refine ⟨h _ ha.1,?_⟩
  cases hs : a.spot with
  | none => rfl
  | some k => rw [hs] at ha; exact h _ ha.2
 have hS : ∀ (a : Option Addr) (c : Nat),((match a with | some a => bndA p a | none => true) && (Nat.blt c big || p (c - big))) = true → ((match a with | some a => bndA q a | none => true) && (Nat.blt c big || q (c - big))) = true:=fun a c hx => by
  rw [Bool.and_eq_true,Bool.or_eq_true] at *
  refine ⟨?_,hx.2.imp id (h _)⟩
  cases a with
  | none => rfl
  | some a => exact hA a hx.1
 intro d
 induction d with
 | zero =>
  intro v hv
  cases v with
  | pointer a => cases a with
   | none => exact hv
   | some a => exact hA a hv
  | slice a l c => exact hS a c hv
  | _ => exact hv
 | succ d ih =>
  have hl : ∀ l : List Value,l.all (okV p d) = true → l.all (okV q d) = true:=fun l hl => List.all_eq_true.2 fun v hv => ih v (List.all_eq_true.1 hl v hv)
  intro v hv
  cases v with
  | pointer a => cases a with
   | none => exact hv
   | some a => exact hA a hv
  | slice a l c => exact hS a c hv
  | func fn fs cs =>
   simp only [rr, tt, okV,Bool.and_eq_true] at hv ⊢
   exact ⟨⟨hv.1.1,hl _ hv.1.2⟩,hl _ hv.2⟩
  | iface t v => exact ih v hv
  | agg cs => exact hl _ hv
  | tuple cs => exact hl _ hv
  | _ => exact hv
def q71 (l : Nat) : Bool:=Nat.beq l 71 || Nat.beq l 72
theorem q71_is {l : Nat} (h : q71 l = true) : l = 71 ∨ l = 72:=by
 unfold q71 at h
 rw [Bool.or_eq_true] at h
 exact h.imp Nat.eq_of_beq_eq_true Nat.eq_of_beq_eq_true
structure YOk (y0 y1 y2 y3 y4 y5 : Value) : Prop where
 ok : ∀ v ∈ [y0,y1,y2,y3,y4,y5],okV q71 3 v = true
section
variable {y0 y1 y2 y3 y4 y5 : Value} (h : YOk y0 y1 y2 y3 y4 y5)
include h
theorem YOk.to {p : Nat → Bool} (h1 : p 71 = true) (h2 : p 72 = true) : ∀ v ∈ [y0,y1,y2,y3,y4,y5],okV p 3 v = true:=fun v hv =>
 okV_mono (fun l hl => by rcases q71_is hl with rfl | rfl <;> assumption) 3 v (h.ok v hv)
theorem YOk.rn {σ : Nat → Nat} (h1 : σ 71 = 71) (h2 : σ 72 = 72) : ∀ v ∈ [y0,y1,y2,y3,y4,y5],rnV σ 3 v = v:=fun v hv =>
 rnV_on (p:=q71) (fun l hl => by rcases q71_is hl with rfl | rfl <;> assumption) 3 v (h.ok v hv)
end
theorem sl_ok {p : Nat → Bool} {g n : Nat} (h : p g = true) : okV p 3 (.slice (some ⟨g,0,none⟩) n (big + g)) = true:=by
 simp only [rr, tt, okV,bndA,h,Bool.and_true,Bool.true_and,Nat.add_sub_cancel_left,Bool.or_true]
theorem sl_rn (σ : Nat → Nat) (g n : Nat) : rnV σ 3 (.slice (some ⟨g,0,none⟩) n (big + g)) = .slice (some ⟨σ g,0,none⟩) n (big + σ g):=by
 simp only [rr, tt, rnV,Option.map_some,rnA,Option.map_none,rnC_big]
theorem u32s_app1 (acc : List Nat) (x : Nat) : u32s acc ++ [Value.int IntKind.u32 (x : Int)] = u32s (acc ++ [x]):=by simp [u32s]
theorem u32s_one (x : Nat) : [Value.int IntKind.u32 (x : Int)] = u32s ([] ++ [x]):=by simp [u32s]
theorem numO_le {w off : Nat} {bs : List UInt8} (ho : off ≤ 1000000000) (hl : bs.length ≤ 1000000000) (hw : 0 < w) : numO w off bs ≤ 1000000000:=by
 unfold numO
 cases h : numIs w off bs
 ·exact ho
 ·have : w ≤ bs.length - off:=by simpa [numIs] using h
  show off + w ≤ _
  omega
theorem numV_lt {off : Nat} {bs : List UInt8} : numV 4 off bs < 4294967296:=by
 unfold numV
 cases numIs 4 off bs
 ·show 0 < _; omega
 ·exact leV_lt 4 _
def runC (bs : List UInt8) : Nat → Nat → List Nat × Nat × Bool
 | 0,off => ([],off,true)
 | m + 1,off => bif numIs 4 off bs then (numV 4 off bs :: (runC bs m (off + 4)).1,(runC bs m (off + 4)).2) else ([0],off,false)
def contC (bs : List UInt8) (m off : Nat) (b : Bool) : List Nat × Nat × Bool:=bif b then runC bs m off else ([],off,false)
theorem contC_step (bs : List UInt8) (m off : Nat) : contC bs (m + 1) off true = (numV 4 off bs :: (contC bs m (numO 4 off bs) (numIs 4 off bs)).1,(contC bs m (numO 4 off bs) (numIs 4 off bs)).2):=by
 unfold contC
 simp only [rr, tt, cond_true,runC]
 cases h : numIs 4 off bs
 ·simp [numV,numO,h]
 ·simp [numO,h]
theorem u32n_len (xs : List Nat) : (u32s xs).length = xs.length:=by simp [u32s]
theorem oneC_u32s (xs : List Nat) : oneC (u32s xs) = true:=oneC_flat (u32s_flat xs)
def rCa (bs : List UInt8) (m off : Nat) : List Nat:=(runC bs m off).1
def rCo (bs : List UInt8) (m off : Nat) : Nat:=(runC bs m off).2.1
def rCb (bs : List UInt8) (m off : Nat) : Bool:=(runC bs m off).2.2
end Go.Proofs.Ytdljpnebpoaeiaa
