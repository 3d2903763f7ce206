/-
  CoreDoesCard: part 2 of the proof.
-/
import Derived.Test.YtagacmljbgkmoaaGreatDoorQCoreDoesCardA
set_option linter.unusedSimpArgs false
set_option linter.unusedVariables false
set_option linter.unusedSectionVars false
namespace Go.Proofs.YtagacmljbgkmoaaGreatDoor.Sy
open Go.IntKind (u8 u16 u32 u64 i64)
open Go.RowKit
section
variable {P:Program} {r:Ren} {s s':St} {w:World} {e:Env} {a:Act}
theorem Zs9 {t:TypeId} {x v:Value} (h:ZpL P s t x=some (v,s')) (hg:Good r s w) (hfr:WL r s.n s'.n):s'.O=s.O∧Yld P r s w (Instr.range t (r.val x)) v s':=by
 unfold ZpL at h
 obtain⟨d,hd,h⟩:=oB h
 split at h
 ·rename_i _ _ b _
  simp only[Option.some.injEq,Prod.mk.injEq] at h
  obtain⟨rfl,rfl⟩:=h
  have hf:=hfr _ (Nat.le_refl _) (Nat.lt_succ_self _)
  refine⟨rfl,_,_,?_,ZBg hg hf _,Zln (Ren.with_d _ _ _ _)⟩
  rw[ZfC _ _ _ _ hf,Xs]
  simp only[Instr.range,Sem.run_bind,run_underlying hd,Result.andThen_ok,Sem.run_pure,run_newObj]
 ·cases h
theorem Zgl {b:ByteArray} {j g:Nat} (h:w.heap[g]? = some (.stringIter b j)):(getObj g).run P w = .ok (.stringIter b j) w:=by simp[getObj,Sem.run,h]
theorem ZlA {b:ByteArray} {j g:Nat} {o:Obj} (h:w.heap[g]? = some (.stringIter b j)):(setObj g o).run P w = .ok () { w with heap:=w.heap.setIfInBounds g o }:=by
 simp[setObj,Sem.run,h]
theorem Zru (b:ByteArray) (i:Nat) (c:UInt8) (h:b.data.toList[i]? = some c) (hc:c.toNat<128):Utf8.decode b i=(c.toNat,1):=by
 have h1:b.get! (i+0)=c:=by
  rw[Array.getElem?_toList] at h
  show b.data[i+0]! = c
  rw[Nat.add_zero,getElem!_def,h]
 unfold Utf8.decode
 simp only[h1]
 rw[if_pos (by omega)]
theorem ZwD {b:Bool} {x v:Value} (h:Zwu s b x=some (v,s')) (hg:Good r s w) (hO:s'.O):s.O∧∀ t,Yld P r s w (Instr.next (r.val x) b t) v s':=by
 unfold Zwu at h
 split at h
 ·rename_i a
  split at h
  ·cases h
  rename_i hs
  cases ho:Nat.beq a.off 0
  ·rw[ho] at h; cases h
  rw[ho] at h
  have ho:=eB ho
  simp only[cond_true] at h
  obtain⟨k,hk,h⟩:=oB h
  split at h
  ·cases h
  rename_i i hi
  cases hrw:k.rw
  ·rw[hrw] at h; cases h
  rw[hrw] at h
  simp only[cond_true] at h
  have hw0:r.w a.block=0:=by
   rcases hg.is _ _ hk with⟨h1,_⟩|⟨y,_,_,_,_,h1⟩
   ·rw[hi] at h1; cases h1
   ·exact h1
  have ha:r.val (.pointer (some a)) = .pointer (some ⟨r.b a.block,0,none⟩):=by rw[Y4,Option.map_some,Wd r a hs,ho,hw0]
  have hob:w.heap[r.b a.block]? = some (.stringIter i.1 i.2):=by
   rcases hg.is _ _ hk with⟨h1,_⟩|⟨y,h1,h2,_⟩
   ·rw[hi] at h1; cases h1
   ·rw[hi] at h1; cases h1; exact h2
  have hlt:=(hg.is _ _ hk).lt
  rw[Qr] at h
  cases hn:(test (Nat.blt i.2 i.1.data.toList.length) s).1
  ·rw[hn] at h
   simp only[cond_false,Option.some.injEq,Prod.mk.injEq] at h
   obtain⟨rfl,rfl⟩:=h
   have hn':Nat.blt i.2 i.1.data.toList.length=false:=by rw[← Zbm _ _ hO]; exact hn
   refine⟨Zbl _ _ hO,fun t=>Yld.test _ hg ?_ (by rw[Xj]; simp[ZeF])⟩
   have hsz:¬ i.2<i.1.size:=by
    intro hc
    have:i.2<i.1.data.toList.length:=by rw[Array.length_toList]; exact hc
    rw[(Nat.blt_eq).mpr this] at hn'; cases hn'
   rw[ha]
   simp only[Instr.next,Sem.run_bind,Zgl hob,Result.andThen_ok,if_neg hsz,Sem.run_pure]
   rw[Xz]; simp[K5]
  ·rw[hn] at h
   simp only[cond_true,Option.some.injEq,Prod.mk.injEq] at h
   obtain⟨rfl,rfl⟩:=h
   have h8:=UD _ (test (Nat.blt i.2 i.1.data.toList.length) s).2 hO
   have hO1:=WZ _ (test (Nat.blt i.2 i.1.data.toList.length) s).2 hO
   have hn':Nat.blt i.2 i.1.data.toList.length=true:=by rw[← Zbm _ _ hO1]; exact hn
   have hlt:i.2<i.1.data.toList.length:=by simpa using hn'
   have hc:i.1.data.toList[i.2]? = some (i.1.data.toList.getD i.2 0):=by
    rw[List.getD_eq_getElem?_getD,List.getElem?_eq_getElem hlt]; rfl
   have h8:(i.1.data.toList.getD i.2 0).toNat<128:=by simpa using h8
   have hsz:i.2<i.1.size:=by
    rw[Array.length_toList] at hlt
    exact hlt
   have hsb:Yx s (ask (Nat.blt (i.1.data.toList.getD i.2 0).toNat 128) (test (Nat.blt i.2 i.1.data.toList.length) s).2).2:=(Yx.test _ _).trans (.ask _ _)
   have hk2:look (ask (Nat.blt (i.1.data.toList.getD i.2 0).toNat 128) (test (Nat.blt i.2 i.1.data.toList.length) s).2).2.h a.block=some k:=by rw[hsb.2.1]; exact hk
   have hnx:=ZBh (hsb.good hg) hk2 hi hrw (i.2+1)
   rw[hsb.2.1] at hnx
   refine⟨Zbl _ _ hO1,fun t=>⟨r,_,?_,(hsb.to hg).trans hnx,by rw[Xj]; simp[Uw,ZeF]⟩⟩
   rw[ha]
   simp only[Instr.next,Sem.run_bind,Zgl hob,Result.andThen_ok,if_pos hsz,Zru _ _ _ hc h8,ZlA hob,Sem.run_pure]
   rw[Xz]; simp[K5,YI,goInt]
 ·cases h
theorem ZFn {o:Oper} {call:QM} {v:Value} (h:xop P call e s o=some (v,s')) (hO:s'.O) (hs:∀ x∈o.op.operands,ZpV r e a x) (hg:Good r s w) (hfr:WL r s.n s'.n) (hcall:Zs P call) :
  s.O∧(Zkw P r s w (execOp a.eval o) v s'∨∃ f args,(execOp a.eval o).run P w = .ok (.enter f (args.map r.val).toArray) w∧ZeZ P f args s v s'∧∀ u∈args,bnd r.d u=true):=by
 have hpure:Zf4 P e s o=some (v,s')→(∀ cs b,o.op ≠ .select cs b)→_:=fun h hsel=>ZbE (w:=w) h hs hsel hg hO
 obtain⟨dst,op,type,pos,after,guard⟩:=o
 unfold xop at h
 cases op<;>simp only[] at h<;>simp only[Op.operands] at hs
 case move x =>
  obtain⟨u,hu,h⟩:=oM h
  simp only[Prod.mk.injEq] at h
  obtain⟨rfl,rfl⟩:=h
  obtain⟨e1,b1⟩:=hs x (by simp) u hu
  exact⟨hO,.inl ⟨r,w,.inl (by simp only[execOp,e1,Sem.run_pure]),To.refl hg,b1⟩⟩
 case assign x =>
  obtain⟨u,hu,h⟩:=oM h
  simp only[Prod.mk.injEq] at h
  obtain⟨rfl,rfl⟩:=h
  obtain⟨e1,b1⟩:=hs x (by simp) u hu
  exact⟨hO,.inl ⟨r,w,.inl (by simp only[execOp,e1,Sem.run_pure]),To.refl hg,b1⟩⟩
 case pick c x y =>
  obtain⟨cv,hc,h⟩:=oB h
  split at h
  ·rename_i t
   obtain⟨u,hu,h⟩:=oM h
   simp only[Prod.mk.injEq] at h
   obtain⟨rfl,rfl⟩:=h
   obtain⟨e1,b1⟩:=hs c (by simp) _ hc
   rw[K5] at e1
   have ht:=Zbm t s hO
   rw[ht] at hu
   have hx:ZpV r e a (bif t then x else y):=by cases t<;>exact hs _ (by simp)
   obtain⟨e2,b2⟩:=hx _ hu
   refine⟨Zbl _ _ hO,.inl ⟨r,w,.inl ?_,To.test hg t,b2⟩⟩
   simp only[execOp,e1,asBool,Sem.run_bind,Sem.run_pure,Result.andThen_ok,← e2]
   cases t<;>rfl
  ·cases h
 case alloc t =>
  obtain⟨z,hz,h⟩:=oM h
  simp only[Prod.mk.injEq] at h
  obtain⟨rfl,rfl⟩:=h
  exact⟨hO,.inl (ZsX hz hg (hfr _ (Nat.le_refl _) (Nat.lt_succ_self _))).comes⟩
 case box t x =>
  obtain⟨u,hu,h⟩:=oB h
  cases hb:Zj8 u.cells.toList
  ·rw[hb] at h; cases h
  rw[hb] at h
  simp only[cond_true,Option.some.injEq,Prod.mk.injEq] at h
  obtain⟨rfl,rfl⟩:=h
  obtain⟨e1,b1⟩:=hs x (by simp) u hu
  refine⟨hO,.inl ?_⟩
  simp only[execOp,e1]
  exact(ZBj hb b1 hg (hfr _ (Nat.le_refl _) (Nat.lt_succ_self _))).comes
 case build t parts =>
  obtain⟨ps,hps,h⟩:=oB h
  obtain⟨u,hu,h⟩:=oM h
  simp only[Prod.mk.injEq] at h
  obtain⟨rfl,rfl⟩:=h
  obtain⟨m1,m2⟩:=Zly hps fun x hx=>hs x.2 (by simp; exact⟨x.1,by simpa using hx⟩)
  refine⟨hO,.inl ?_⟩
  have:(parts.map fun x=>(x.1,a.eval x.2))=(ps.map fun x=>(x.1,r.val x.2)).toArray:=by rw[← m1]; apply Array.ext'; simp
  simp only[execOp,this]
  exact(ZsY hu m2 hg).comes
 case buildSlice t len parts =>
  obtain⟨ps,hps,h⟩:=oB h
  obtain⟨m1,m2⟩:=Zly hps fun x hx=>hs x.2 (by simp; exact⟨x.1,by simpa using hx⟩)
  obtain⟨h1,h2⟩:=Zkc h m2 hg hfr
  refine⟨h1▸hO,.inl ?_⟩
  have:(parts.map fun x=>(x.1,a.eval x.2))=(ps.map fun x=>(x.1,r.val x.2)).toArray:=by rw[← m1]; apply Array.ext'; simp
  simp only[execOp,this]
  exact h2.comes
 case load t x =>
  obtain⟨u,hu,h⟩:=oB h
  obtain⟨e1,b1⟩:=hs x (by simp) u hu
  split at h
  ·rename_i ad
   obtain⟨h0,h1,h2,h3⟩:=ZiM (P:=P) h hg hO
   refine⟨h0,.inl ⟨r,w,.inl ?_,h3,h2⟩⟩
   rw[Y4,Option.map_some] at e1
   simp only[execOp,e1,Instr.loadAt,Instr.sureAddr,Sem.run_bind,Sem.run_pure,Result.andThen_ok,h1]
  ·cases h
 case store t x y =>
  obtain⟨u,hu,h⟩:=oB h
  obtain⟨u2,hu2,h⟩:=oB h
  obtain⟨e1,b1⟩:=hs x (by simp) u hu
  obtain⟨e2,b2⟩:=hs y (by simp) u2 hu2
  split at h
  ·rename_i ad
   obtain⟨s1,hs1,h⟩:=oM h
   simp only[Prod.mk.injEq] at h
   obtain⟨rfl,rfl⟩:=h
   obtain⟨h1,w',h2,h3⟩:=ZmU (P:=P) hs1 hg b2 hO
   refine⟨h1,.inl ⟨r,w',.inr ⟨?_,rfl⟩,h3,Zdx _⟩⟩
   rw[Y4,Option.map_some] at e1
   simp only[execOp,e1,e2,Instr.storeAt,Instr.sureAddr,Sem.run_bind,Sem.run_pure,Result.andThen_ok,h2]
  ·cases h
 case nilCheck x =>
  obtain⟨u,hu,h⟩:=oB h
  obtain⟨v',hv,h⟩:=oM h
  simp only[Prod.mk.injEq] at h
  obtain⟨rfl,rfl⟩:=h
  obtain⟨e1,b1⟩:=hs x (by simp) u hu
  unfold ZmN at hv
  split at hv
  ·simp only[Option.some.injEq] at hv
   subst hv
   refine⟨hO,.inl ⟨r,w,.inl ?_,To.refl hg,b1⟩⟩
   rw[Y4,Option.map_some] at e1 ⊢
   simp only[execOp,e1]
   rfl
  ·simp only[Option.some.injEq] at hv
   subst hv
   refine⟨hO,.inl ⟨r,w,.inl ?_,To.refl hg,b1⟩⟩
   rw[W4] at e1 ⊢
   simp only[execOp,e1]
   rfl
  ·cases hv
 case binOp op t x y ty =>
  obtain⟨u1,h1,h⟩:=oB h
  obtain⟨u2,h2,h⟩:=oB h
  obtain⟨k1,k2⟩:=ZBm (o:=⟨dst,.binOp op t x y ty,type,pos,after,guard⟩) rfl h1 h2 h hO hs hg
  exact⟨k1,.inl k2⟩
 case unOp op t x=>exact⟨(hpure h (by simp)).1,.inl (hpure h (by simp)).2⟩
 case convert src dst x =>
  obtain⟨u,hu,h⟩:=oB h
  obtain⟨k1,k2⟩:=ZoG (o:=⟨_,.convert src dst x,type,pos,after,guard⟩) rfl hu h hO hs hg hfr
  exact⟨k1,.inl k2⟩
 case makeFunc fn first captured =>
  split at h
  ·rename_i f
   obtain⟨l1,h1,h⟩:=oB h
   obtain⟨l2,h2,h⟩:=oM h
   simp only[Prod.mk.injEq] at h
   obtain⟨rfl,rfl⟩:=h
   obtain⟨m1,b1⟩:=Zlx h1 fun x hx=>hs x (Array.mem_append_left _ (by simpa using hx))
   obtain⟨m2,b2⟩:=Zlx h2 fun x hx=>hs x (Array.mem_append_right _ (by simpa using hx))
   refine⟨hO,.inl ⟨r,w,.inl ?_,To.refl hg,?_⟩⟩
   ·rw[W4]
    have e1:first.map a.eval=(⟨l1⟩:Array Value).map r.val:=by apply Array.ext'; simp[m1]
    have e2:captured.map a.eval=(⟨l2⟩:Array Value).map r.val:=by apply Array.ext'; simp[m2]
    simp only[execOp,Instr.makeFunc,e1,e2]
    rfl
   ·rw[JW]
    simp only[Bool.true_and,Bool.and_eq_true]
    exact⟨Array.all_eq_true_iff_forall_mem.2 fun v hv=>b1 v (by simpa using hv),Array.all_eq_true_iff_forall_mem.2 fun v hv=>b2 v (by simpa using hv)⟩
  ·cases h
 case range t x =>
  obtain⟨u,hu,h⟩:=oB h
  obtain⟨e1,b1⟩:=hs x (by simp) u hu
  obtain⟨k1,k2⟩:=Zs9 h hg hfr
  refine⟨k1▸hO,.inl ?_⟩
  simp only[execOp,e1]
  exact k2.comes
 case next x b =>
  obtain⟨u,hu,h⟩:=oB h
  obtain⟨e1,b1⟩:=hs x (by simp) u hu
  obtain⟨k1,k2⟩:=ZwD h hg hO
  refine⟨k1,.inl ?_⟩
  simp only[execOp,e1]
  exact(k2 _).comes
 case makeSlice t l c =>
  obtain⟨u1,h1,h⟩:=oB h
  obtain⟨u2,h2,h⟩:=oB h
  obtain⟨e1,b1⟩:=hs l (by simp) u1 h1
  obtain⟨e2,b2⟩:=hs c (by simp) u2 h2
  obtain⟨k1,k2⟩:=Zlw h hg hfr hO
  refine⟨k1,.inl ?_⟩
  simp only[execOp,e1,e2]
  exact k2.comes
 case slice t x lo hi mx =>
  obtain⟨u,h1,h⟩:=oB h
  obtain⟨lo',h2,h⟩:=oB h
  obtain⟨hi',h3,h⟩:=oB h
  obtain⟨mx',h4,h⟩:=oB h
  obtain⟨e1,b1⟩:=hs x (by simp) u h1
  have e2:=ZoF h2 fun y hy=>hs y (by subst hy; simp)
  have e3:=ZoF h3 fun y hy=>hs y (by subst hy; simp)
  have e4:=ZoF h4 fun y hy=>hs y (by subst hy; simp)
  obtain⟨k1,k2⟩:=Zs3 h b1 hg hfr hO
  refine⟨k1,.inl ?_⟩
  simp only[execOp,e1,e2,e3,e4]
  exact k2.comes
 case fieldAddr t x f =>
  obtain⟨u,hu,h⟩:=oB h
  obtain⟨v',hv,h⟩:=oM h
  simp only[Prod.mk.injEq] at h
  obtain⟨rfl,rfl⟩:=h
  obtain⟨e1,b1⟩:=hs x (by simp) u hu
  refine⟨hO,.inl ?_⟩
  simp only[execOp,e1]
  exact(Zlu hv b1 hg).comes
 case field t x f =>
  obtain⟨u,hu,h⟩:=oB h
  obtain⟨v',hv,h⟩:=oM h
  simp only[Prod.mk.injEq] at h
  obtain⟨rfl,rfl⟩:=h
  obtain⟨e1,b1⟩:=hs x (by simp) u hu
  refine⟨hO,.inl ?_⟩
  simp only[execOp,e1]
  exact(Zs1 hv b1 hg).comes
 case indexAddr t x i =>
  obtain⟨u1,h1,h⟩:=oB h
  obtain⟨u2,h2,h⟩:=oB h
  obtain⟨e1,b1⟩:=hs x (by simp) u1 h1
  obtain⟨e2,b2⟩:=hs i (by simp) u2 h2
  obtain⟨k1,k2⟩:=Zlv h b1 hg hO
  refine⟨k1,.inl ?_⟩
  simp only[execOp,e1,e2]
  exact k2.comes
 case index t x i =>
  obtain⟨u1,h1,h⟩:=oB h
  obtain⟨u2,h2,h⟩:=oB h
  obtain⟨e1,b1⟩:=hs x (by simp) u1 h1
  obtain⟨e2,b2⟩:=hs i (by simp) u2 h2
  obtain⟨k1,k2⟩:=Zs0 h b1 hg hO
  refine⟨k1,.inl ?_⟩
  simp only[execOp,e1,e2]
  exact k2.comes
 case extract x i =>
  obtain⟨u,hu,h⟩:=oB h
  obtain⟨v',hv,h⟩:=oM h
  simp only[Prod.mk.injEq] at h
  obtain⟨rfl,rfl⟩:=h
  obtain⟨e1,b1⟩:=hs x (by simp) u hu
  refine⟨hO,.inl ?_⟩
  simp only[execOp,e1]
  exact(ZoC hv b1 hg).comes
 case call c=>exact ZwC (o:=⟨dst,.call c,type,pos,after,guard⟩) rfl h hO hs hg hfr hcall
 all_goals cases h
end
end Go.Proofs.YtagacmljbgkmoaaGreatDoor.Sy
namespace Go.Proofs.YtagacmljbgkmoaaGreatDoor.Sy
open Go.IntKind (u8 u16 u32 u64 i64)
open Go.RowKit
theorem Qy {α:Type} {c:Bool} {x:Option α} {y:α} (h:(bif c then x else none)=some y):c=true∧x=some y:=by
 cases c
 ·cases h
 ·exact⟨rfl,h⟩
section
variable {P:Program} {s s' s1:St} {e:Env}
theorem ZlB {α:Type} {c:Bool} {x:Option α} {y:α} (h:(bif c then none else x)=some y):x=some y:=by
 cases c
 ·exact h
 ·cases h
theorem WX.refl (s:St):WX s s:=⟨Nat.le_refl _,id,id⟩
theorem WX.trans (h:WX s s1) (h':WX s1 s'):WX s s':=⟨Nat.le_trans h.1 h'.1,fun x=>h.2.1 (h'.2.1 x),fun x=>h'.2.2 (h.2.2 x)⟩
theorem WX.test (t:Bool) (s:St):WX s (test t s).2:=⟨by rw[ZaO]; exact Nat.le_refl _,Zbl t s,fun h=>⟨by rw[ZmR,ZaO]; exact h.1,by rw[ZiL,ZaO]; exact h.2⟩⟩
theorem WX.ask (t:Bool) (s:St):WX s (Sy.ask t s).2:=⟨Nat.le_refl _,WZ t s,id⟩
theorem WFn.new (h:WFn s1) (op:Option (Nat×Nat)) (l:List Value) (lo:List (Nat×Nat)) (esc:Nat) (hlo:∀ x∈lo,x.1<s1.n+1):WFn { J0 s1 op l with lo:=lo,esc:=esc }:=by
 refine⟨fun g k hk => ?_,hlo⟩
 have hk:look ((s1.n,(⟨true,op,l,none⟩:Blk))::s1.h) g=some k:=hk
 rw[Qs] at hk
 split at hk
 ·rename_i e; subst e; exact Nat.lt_succ_self _
 ·exact Nat.lt_succ_of_lt (h.1 g k hk)
theorem WX.new (h:WX s s1) (op:Option (Nat×Nat)) (l:List Value):WX s (J0 s1 op l) :=
 ⟨Nat.le_succ_of_le h.1,h.2.1,fun hw=>(h.2.2 hw).new op l s1.lo s1.esc fun x hx=>Nat.lt_succ_of_lt ((h.2.2 hw).2 x hx)⟩
theorem WX.new1 (h:WX s s1) (op:Option (Nat×Nat)) (l:List Value) (m esc:Nat):WX s { J0 s1 op l with lo:=(s1.n,m)::s1.lo,esc:=esc } :=
 ⟨Nat.le_succ_of_le h.1,h.2.1,fun hw=>(h.2.2 hw).new op l _ _ fun x hx=>by
  rcases List.mem_cons.1 hx with rfl|hx
  ·exact Nat.lt_succ_self _
  ·exact Nat.lt_succ_of_lt ((h.2.2 hw).2 x hx)⟩
theorem WX.letter (h:WX s s1) (m:Nat):WX s { s1 with n:=s1.n+1,lo:=(s1.n,m)::s1.lo } :=
 ⟨Nat.le_succ_of_le h.1,h.2.1,fun hw=>⟨fun g k hk=>Nat.lt_succ_of_lt ((h.2.2 hw).1 g k hk),fun x hx=>by
  rcases List.mem_cons.1 hx with rfl|hx
  ·exact Nat.lt_succ_self _
  ·exact Nat.lt_succ_of_lt ((h.2.2 hw).2 x hx)⟩⟩
theorem WX.kill (h:WX s s1) (g:Nat):WX s { s1 with h:=Sy.kill s1.h g } :=
 ⟨h.1,h.2.1,fun hw=>⟨fun g' k hk=>by
  have hk:look (Sy.kill s1.h g) g'=some k:=hk
  rw[Zgd] at hk
  split at hk
  ·cases hk
  ·exact(h.2.2 hw).1 g' k hk,(h.2.2 hw).2⟩⟩
theorem Kz {d top n:Nat} {o:Option Value} (h:Zdu s d top o=some (n,s')):WX s s':=by
 unfold Zdu at h
 split at h
 ·simp only[Option.some.injEq,Prod.mk.injEq] at h; rw[← h.2]; exact .refl _
 ·rename_i k i
  cases hb:(Sy.ask (Zrn i top) s).1
  ·rw[hb] at h; cases h
  ·rw[hb] at h
   simp only[cond_true,Option.some.injEq,Prod.mk.injEq] at h
   rw[← h.2]; exact .ask _ _
 ·cases h
theorem Zgm (h:Yx s s'):WX s s':=⟨Nat.le_of_eq h.1.symm,h.2.2.2,fun hw=>⟨by rw[h.2.1,h.1]; exact hw.1,by rw[h.2.2.1,h.1]; exact hw.2⟩⟩
theorem ZoH {sc:Bool} {a:Addr} {vs:List Value} (h:Zcr sc s a vs=some s'):WX s s':=by
 have hO:s'.O→s.O:=fun hO=>Zge h hO
 unfold Zcr at h
 split at h
 ·cases h
 replace h:=oB h
 obtain⟨k,_,h⟩:=h
 cases hc:(k.rw&&Zow k.it)
 ·rw[hc] at h; cases h
 rw[hc] at h
 simp only[cond_true,Option.some.injEq] at h
 subst h
 refine⟨Nat.le_refl _,hO,fun hw=>⟨fun g k' hk' => ?_,hw.2⟩⟩
 simp only[] at hk'
 rw[ZpO] at hk'
 split at hk'
 ·rename_i e; obtain⟨k0,h0,_⟩:=oM hk'; subst e; exact hw.1 _ k0 h0
 ·exact hw.1 g k' hk'
theorem ZmY {t:TypeId} {a:Addr} {v:Value} (h:ZeC P s t a=some (v,s')):WX s s':=by
 unfold ZeC at h
 replace h:=oB h
 obtain⟨gg,_,h⟩:=h
 replace h:=oB h
 obtain⟨z,_,h⟩:=h
 split at h
 ·cases h
 replace h:=oB h
 obtain⟨k,_,h⟩:=h
 obtain⟨_,h⟩:=Qy h
 cases gg
 ·simp only[cond_false] at h
  split at h
  ·simp only[Option.some.injEq,Prod.mk.injEq] at h
   rw[← h.2]; exact .ask _ _
  ·cases h
 ·simp only[cond_true] at h
  replace h:=oB h
  obtain⟨n,_,h⟩:=h
  obtain⟨_,h⟩:=Qy h
  simp only[Option.some.injEq,Prod.mk.injEq] at h
  rw[← h.2]; exact .ask _ _
theorem ZwE {op:BinOp} {x y:List UInt8} {v:Value} (h:ZFl s op x y=some (v,s')):WX s s':=by
 unfold ZFl at h
 split at h
 all_goals first
  | (simp only[Option.some.injEq,Prod.mk.injEq] at h; rw[← h.2]; first|exact .refl _|exact .ask _ _)
  | cases h
theorem Zrv {t:TypeId} {a:Addr} {v:Value} (h:Zdt P s t a v=some s'):WX s s':=by
 unfold Zdt at h
 replace h:=oB h
 obtain⟨n,_,h⟩:=h
 cases hc:Nat.beq v.cells.size n
 ·rw[hc] at h; cases h
 rw[hc] at h
 exact ZoH h
theorem Zah {o:Oper} {v:Value} (h:Zf4 P e s o=some (v,s')):WX s s':=by
 unfold Zf4 at h
 generalize (o.op.operands.toList.all fun x=>match opd e x with|some v=>Uv v|none=>false)=c at h
 cases c
 ·cases h
 simp only[cond_true] at h
 replace h:=oB h
 obtain⟨x,_,h⟩:=h
 split at h
 ·obtain⟨_,h⟩:=Qy h
  simp only[Option.some.injEq,Prod.mk.injEq] at h
  rw[← h.2]; exact .refl _
 ·cases h
theorem ZpW {a:Addr} {f:Bool} {l h top size:Nat} {v:Value} (hx:ZAc s a f l h top size=some (v,s')):WX s s':=by
 unfold ZAc Zws at hx
 cases f
 ·simp only[cond_false,Option.some.injEq,Prod.mk.injEq] at hx
  rw[← hx.2]; exact(WX.refl _).letter _
 ·simp only[cond_true] at hx
  split at hx
  ·simp only[Option.some.injEq,Prod.mk.injEq] at hx
   rw[← hx.2]; exact(WX.refl _).letter _
  cases hb:(test (Nat.blt l top) s).1<;>rw[hb] at hx<;>simp only[cond_true,cond_false,Option.some.injEq,Prod.mk.injEq] at hx<;>rw[← hx.2]<;>exact(WX.test _ _).letter _
theorem ZiT {a:Option Addr} {len cap size:Nat} {lo hi mx:Option Value} {v:Value} (h:Zha s a len cap size lo hi mx=some (v,s')):WX s s':=by
 unfold Zha at h
 split at h
 ·replace h:=oB h
  obtain⟨⟨m,s1⟩,e1,h⟩:=h
  simp only[] at h
  replace h:=oB h
  obtain⟨⟨hh,s2⟩,e2,h⟩:=h
  simp only[] at h
  replace h:=oB h
  obtain⟨⟨l,s3⟩,e3,h⟩:=h
  simp only[] at h
  have hm:WX s s3:=by
   cases hi with
   | none=>cases e2
   | some hi0=>exact((Kz e1).trans (Kz e2)).trans (Kz e3)
  cases a with
  | none =>
   simp only[] at h
   cases hb:Nat.blt m big
   ·rw[hb] at h; cases h
   ·rw[hb] at h; simp only[cond_true,Option.some.injEq,Prod.mk.injEq] at h; rw[← h.2]; exact hm
  | some a'=>exact hm.trans (ZpW h)
 ·replace h:=oB h
  obtain⟨⟨hh,s1⟩,e1,h⟩:=h
  simp only[] at h
  replace h:=oB h
  obtain⟨⟨l,s2⟩,e2,h⟩:=h
  simp only[] at h
  have hm:WX s s2:=(Kz e1).trans (Kz e2)
  cases a with
  | none =>
   simp only[] at h
   cases hb:Nat.blt cap big
   ·rw[hb] at h; cases h
   ·rw[hb] at h; simp only[cond_true,Option.some.injEq,Prod.mk.injEq] at h; rw[← h.2]; exact hm
  | some a =>
   simp only[] at h
   cases lo with
   | none=>simp only[Option.some.injEq,Prod.mk.injEq] at h; rw[← h.2]; exact hm
   | some _=>exact hm.trans (ZpW h)
theorem ZiU {a:Addr} {n size:Nat} {lo hi mx:Option Value} {v:Value} (h:Zhb s a n size lo hi mx=some (v,s')):WX s s':=by
 unfold Zhb at h
 split at h
 ·cases h
 exact ZiT (Qy h).2
theorem Zrw {t:TypeId} {x v:Value} {lo hi mx:Option Value} (h:ZmO P s t x lo hi mx=some (v,s')):WX s s':=by
 unfold ZmO at h
 replace h:=oB h
 obtain⟨d,_,h⟩:=h
 split at h
 ·replace h:=oB h
  obtain⟨n,_,h⟩:=h
  exact ZiU h
 ·split at h
  ·unfold ZiH at h
   replace h:=oB h
   obtain⟨⟨hh,s1⟩,e1,h⟩:=h
   simp only[] at h
   replace h:=oB h
   obtain⟨⟨l,s2⟩,e2,h⟩:=h
   simp only[Option.some.injEq,Prod.mk.injEq] at h
   rw[← h.2]; exact(Kz e1).trans (Kz e2)
  ·cases h
 ·replace h:=oB h
  obtain⟨n,_,h⟩:=h
  exact ZiT h
 ·replace h:=oB h
  obtain⟨d,_,h⟩:=h
  split at h
  ·replace h:=oB h
   obtain⟨n,_,h⟩:=h
   exact ZiU h
  ·cases h
 ·cases h
theorem Zta {size len cap n:Nat} {sc:Bool} {base:Option Addr} {new:List Value} {v:Value} (h:Zoz s size sc base len cap n new=some (v,s')):WX s s':=by
 unfold Zoz at h
 cases hb:Nat.blt cap big
 ·rw[hb] at h
  simp only[cond_false] at h
  split at h
  ·split at h
   ·cases h
   replace h:=oB h
   obtain⟨k,_,h⟩:=h
   split at h
   ·cases h
   obtain⟨_,h⟩:=Qy h
   simp only[Option.some.injEq,Prod.mk.injEq] at h
   rw[← h.2]; exact((WX.ask _ s).kill _).new1 _ _ _ _
  ·cases h
 ·rw[hb] at h
  simp only[cond_true] at h
  cases hbr:ZsO s base len cap<;>rw[hbr] at h
  ·simp only[cond_false] at h
   cases hle:(test (Nat.ble (len+n) cap) s).1<;>rw[hle] at h
   ·simp only[cond_false] at h
    obtain⟨⟨old,s1⟩,hold,h⟩:=oM h
    simp only[Prod.mk.injEq] at h
    have hsb:=Ky hold
    have hn:s.n=s1.n:=by rw[hsb.1,ZaO]
    have hl:s.lo=s1.lo:=by rw[hsb.2.2.1,ZiL]
    have h:=h.2
    rw[hn,hl] at h
    rw[← h]; exact(((WX.test _ s).trans (Zgm hsb)).trans (WX.ask _ s1)).new1 _ _ _ _
   ·simp only[cond_true] at h
    split at h
    ·cases hn:Nat.beq n 0<;>rw[hn] at h
     ·simp only[cond_false] at h
      split at h
      ·cases h
      obtain⟨s1,h1,h⟩:=oM h
      simp only[Prod.mk.injEq] at h
      rw[← h.2]; exact(WX.test _ s).trans (ZoH h1)
     ·simp only[cond_true,Option.some.injEq,Prod.mk.injEq] at h
      rw[← h.2]; exact .test _ _
    ·simp only[Option.some.injEq,Prod.mk.injEq] at h
     rw[← h.2]; exact(WX.test _ s).trans (.ask _ _)
  ·simp only[cond_true] at h
   split at h
   ·simp only[Option.some.injEq,Prod.mk.injEq] at h
    rw[← h.2]; exact((WX.refl s).kill _).new1 _ _ _ _
   ·cases h
theorem ZoI {t:TypeId} {t1:Option TypeId} {sl x v:Value} (h:ZiJ P s t t1 sl x=some (v,s')):WX s s':=by
 unfold ZiJ at h
 split at h
 ·rename_i base len cap
  iterate 5 (replace h:=oB h; obtain⟨_,_,h⟩:=h)
  replace h:=oB h
  obtain⟨n,_,h⟩:=h
  replace h:=oB h
  obtain⟨⟨new,s1⟩,hnew,h⟩:=h
  obtain⟨_,h⟩:=Qy h
  exact((Zgm (Ky hnew)).trans (.ask _ s1)).trans (Zta h)
 ·cases h
theorem Ztb {t:TypeId} {dst src v:Value} (h:ZsP P s t dst src=some (v,s')):WX s s':=by
 unfold ZsP at h
 split at h
 ·rename_i base dlen dcap
  iterate 4 (replace h:=oB h; obtain⟨_,_,h⟩:=h)
  replace h:=oB h
  obtain⟨⟨cells,s1⟩,hc,h⟩:=h
  have hm:=Zgm (Ky hc)
  cases base with
  | none =>
   simp only[Option.some.injEq,Prod.mk.injEq] at h
   rw[← h.2]; exact hm.trans (.ask _ _)
  | some a =>
   obtain⟨s2,hs2,h⟩:=oM h
   simp only[Prod.mk.injEq] at h
   rw[← h.2]; exact(hm.trans (.ask _ s1)).trans (ZoH hs2)
 ·cases h
theorem We {v v':Value} {s0:St} (hs:WX s s0) (h:some (v',s0)=some (v,s')):WX s s':=by
 simp only[Option.some.injEq,Prod.mk.injEq] at h
 rw[← h.2]; exact hs
theorem W6 {α:Type} {x:Option α} {f:α→Value} {v:Value} {s0:St} (hs:WX s s0) (h:x.map (fun y=>(f y,s0))=some (v,s')):WX s s':=by
 obtain⟨y,_,h⟩:=oM h
 simp only[Prod.mk.injEq] at h
 rw[← h.2]; exact hs
theorem Ztc {call:QM} (hcall:∀ f args s v s',call f args s=some (v,s')→WX s s') {o:Oper} {c:Call} {v:Value} (h:ZsR P call e s o c=some (v,s')):WX s s':=by
 unfold ZsR at h
 split at h
 ·split at h
  ·iterate 2 (replace h:=oB h; obtain⟨_,_,h⟩:=h)
   exact ZoI h
  ·cases h
 ·split at h
  ·iterate 2 (replace h:=oB h; obtain⟨_,_,h⟩:=h)
   exact Ztb h
  ·cases h
 ·split at h
  ·replace h:=oB h
   obtain⟨_,_,h⟩:=h
   unfold ZsQ at h
   split at h
   ·exact W6 (.refl _) h
   ·replace h:=oB h
    obtain⟨_,_,h⟩:=h
    split at h
    ·exact We (.refl _) h
    ·cases h
   ·exact Zah h
  ·cases h
 ·exact Zah h
 ·exact Zah h
 ·replace h:=oB h
  obtain⟨_,_,h⟩:=h
  split at h
  ·replace h:=oB h
   obtain⟨_,_,h⟩:=h
   exact hcall _ _ _ _ _ h
  ·cases h
 ·cases h
theorem ZBn {call:QM} (hcall:∀ f args s v s',call f args s=some (v,s')→WX s s') {o:Oper} {v:Value} (h:xop P call e s o=some (v,s')):WX s s':=by
 unfold xop at h
 split at h
 ·exact W6 (.refl _) h
 ·exact W6 (.refl _) h
 ·replace h:=oB h
  obtain⟨c,_,h⟩:=h
  split at h
  ·exact W6 (.test _ _) h
  ·cases h
 ·obtain⟨z,_,h⟩:=oM h
  simp only[Prod.mk.injEq] at h
  rw[← h.2]; exact(WX.refl _).new _ _
 ·replace h:=oB h
  obtain⟨_,_,h⟩:=h
  obtain⟨_,h⟩:=Qy h
  exact We ((WX.refl _).new _ _) h
 ·replace h:=oB h
  obtain⟨_,_,h⟩:=h
  exact W6 (.refl _) h
 ·replace h:=oB h
  obtain⟨_,_,h⟩:=h
  unfold Zcs at h
  iterate 3 (replace h:=oB h; obtain⟨_,_,h⟩:=h)
  obtain⟨_,h⟩:=Qy h
  obtain⟨z,_,h⟩:=oM h
  simp only[Prod.mk.injEq] at h
  rw[← h.2]; exact(WX.refl _).new _ _
 ·replace h:=oB h
  obtain⟨_,_,h⟩:=h
  split at h
  ·exact ZmY h
  ·cases h
 ·iterate 2 (replace h:=oB h; obtain⟨_,_,h⟩:=h)
  split at h
  ·obtain⟨s1,hs1,h⟩:=oM h
   simp only[Prod.mk.injEq] at h
   rw[← h.2]; exact Zrv hs1
  ·cases h
 ·replace h:=oB h
  obtain⟨_,_,h⟩:=h
  exact W6 (.refl _) h
 ·iterate 2 (replace h:=oB h; obtain⟨_,_,h⟩:=h)
  unfold ZLB at h
  split at h
  ·exact ZwE h
  ·unfold ZLR at h
   split at h
   ·exact We (.ask _ _) (Qy h).2
   ·exact We (.ask _ _) (Qy h).2
   ·exact We (.ask _ _) h
   ·exact We (.ask _ _) h
   ·exact Zah h
  ·exact Zah h
  ·unfold ZLS at h
   replace h:=ZlB h
   split at h
   ·exact W6 (.refl _) h
   ·exact W6 (.refl _) h
   ·cases h
  ·split at h
   ·exact W6 (.refl _) h
   ·exact W6 (.refl _) h
   ·cases h
 ·exact Zah h
 ·replace h:=oB h
  obtain⟨_,_,h⟩:=h
  unfold Zit at h
  split at h
  ·iterate 2 (replace h:=oB h; obtain⟨_,_,h⟩:=h)
   split at h
   ·replace h:=oB h
    obtain⟨_,_,h⟩:=h
    split at h
    ·unfold Zis at h
     simp only[Option.some.injEq,Prod.mk.injEq] at h
     rw[← h.2]; exact(WX.refl _).new1 _ _ _ _
    ·cases h
   ·exact We (.refl _) h
   ·cases h
  ·iterate 2 (replace h:=oB h; obtain⟨_,_,h⟩:=h)
   split at h
   ·replace h:=oB h
    obtain⟨_,_,h⟩:=h
    split at h
    ·unfold Zf5 at h
     split at h
     ·exact We (.refl _) h
     ·split at h
      ·rename_i l hl
       obtain⟨l,s1⟩:=l
       simp only[Option.some.injEq,Prod.mk.injEq] at h
       rw[← h.2]; exact(Zgm (ZdA hl)).trans (.ask _ _)
      ·obtain⟨_,h⟩:=Qy h
       exact We (.refl _) h
     ·cases h
    ·cases h
   ·cases h
  ·exact Zah h
  ·cases h
 ·split at h
  ·replace h:=oB h
   obtain⟨_,_,h⟩:=h
   exact W6 (.refl _) h
  ·cases h
 ·iterate 2 (replace h:=oB h; obtain⟨_,_,h⟩:=h)
  unfold ZeE at h
  split at h
  ·iterate 4 (replace h:=oB h; obtain⟨_,_,h⟩:=h)
   obtain⟨_,h⟩:=Qy h
   simp only[Option.some.injEq,Prod.mk.injEq] at h
   rw[← h.2]; exact(WX.ask _ s).new1 _ _ _ _
  ·cases h
 ·iterate 4 (replace h:=oB h; obtain⟨_,_,h⟩:=h)
  exact Zrw h
 ·replace h:=oB h
  obtain⟨_,_,h⟩:=h
  exact W6 (.refl _) h
 ·replace h:=oB h
  obtain⟨_,_,h⟩:=h
  exact W6 (.refl _) h
 ·iterate 2 (replace h:=oB h; obtain⟨_,_,h⟩:=h)
  unfold ZeD at h
  split at h
  ·replace h:=oB h
   obtain⟨_,_,h⟩:=h
   split at h
   ·split at h
    ·cases h
    replace h:=oB h
    obtain⟨_,_,h⟩:=h
    obtain⟨_,h⟩:=Qy h
    exact We (.ask _ _) h
   ·split at h
    ·cases h
    replace h:=oB h
    obtain⟨_,_,h⟩:=h
    obtain⟨_,h⟩:=Qy h
    exact We (.ask _ _) h
   ·cases h
  ·cases h
 ·iterate 2 (replace h:=oB h; obtain⟨_,_,h⟩:=h)
  unfold ZpK at h
  split at h
  ·replace h:=oB h
   obtain⟨_,_,h⟩:=h
   split at h
   ·replace h:=oB h
    obtain⟨_,_,h⟩:=h
    obtain⟨_,h⟩:=Qy h
    exact W6 (.ask _ _) h
   ·exact We (.ask _ _) h
   ·cases h
  ·cases h
 ·replace h:=oB h
  obtain⟨_,_,h⟩:=h
  exact W6 (.refl _) h
 ·exact Ztc hcall h
 ·replace h:=oB h
  obtain⟨_,_,h⟩:=h
  unfold ZpL at h
  replace h:=oB h
  obtain⟨_,_,h⟩:=h
  split at h
  ·simp only[Option.some.injEq,Prod.mk.injEq] at h
   rw[← h.2]
   refine⟨Nat.le_succ _,id,fun hw=>⟨fun g k hk => ?_,fun x hx=>Nat.lt_succ_of_lt (hw.2 x hx)⟩⟩
   simp only[] at hk ⊢
   rw[Qs] at hk
   split at hk
   ·rename_i e; rw[e]; exact Nat.lt_succ_self _
   ·exact Nat.lt_succ_of_lt (hw.1 g k hk)
  ·cases h
 ·replace h:=oB h
  obtain⟨_,_,h⟩:=h
  unfold Zwu at h
  split at h
  ·split at h
   ·cases h
   obtain⟨_,h⟩:=Qy h
   replace h:=oB h
   obtain⟨k,hk,h⟩:=h
   split at h
   ·cases h
   rename_i i _
   obtain⟨_,h⟩:=Qy h
   cases hn:(test (Nat.blt i.2 (Yf i.1.data.toList)) s).1<;>rw[hn] at h
   ·exact We (.test _ _) h
   ·simp only[cond_true,Option.some.injEq,Prod.mk.injEq] at h
    rw[← h.2]
    refine((WX.test _ s).trans (.ask _ (test (Nat.blt i.2 (Yf i.1.data.toList)) s).2)).trans ⟨Nat.le_refl _,id,fun hw=>⟨fun g k' hk' => ?_,hw.2⟩⟩
    have hw1:=hw.1
    simp only[ZLU,ZmR,Zro,ZaO] at hw1 ⊢
    rw[ZmS] at hk'
    split at hk'
    ·rename_i e; rw[e]; exact hw1 _ _ hk
    ·exact hw1 g k' hk'
  ·cases h
 ·cases h
theorem Zhe (ops:Array Oper) (e:Env) (s:St) (o:Oper):WX s (UC ops e s o).2:=by
 unfold UC
 split
 ·exact .refl _
 ·split
  ·exact .refl _
  ·split
   ·exact .test _ _
   ·exact .refl _
theorem ZaS {call:QM} (hcall:∀ f args s v s',call f args s=some (v,s')→WX s s') {ops:Array Oper} {o:Oper} {v:Value} (h:JV P call ops e s o=some (v,s')):WX s s':=by
 unfold JV at h
 replace h:=ZlB h
 cases hb:(UC ops e s o).1
 ·rw[hb] at h
  exact We (Zhe ops e s o) h
 ·rw[hb] at h
  exact(Zhe ops e s o).trans (ZBn hcall h)
theorem ZlC {call:QM} (hcall:∀ f args s v s',call f args s=some (v,s')→WX s s') {nt:Nat} {ops:Array Oper}:∀ (l:List Oper) (f f':Fr),ZmP P call nt ops l f=some f'→WX f.s f'.s
 | [],f,f',h=>by simp only[ZmP,Option.some.injEq] at h; subst h; exact .refl _
 | o::l,f,f',h=>by
  simp only[ZmP] at h
  replace h:=oB h
  obtain⟨⟨v,s1⟩,h1,h⟩:=h
  replace h:=oB h
  obtain⟨e1,_,h⟩:=h
  exact(ZaS hcall h1).trans (ZlC hcall l _ _ h)
end
end Go.Proofs.YtagacmljbgkmoaaGreatDoor.Sy
namespace Go.Proofs.YtagacmljbgkmoaaGreatDoor.Sy
open Go.IntKind (u8 u16 u32 u64 i64)
open Go.RowKit
def Tv (r:Ren) (v u:Value):Prop:=isU v=true∨(u=r.val v∧bnd r.d v=true)
def Tm (r:Ren) (e:Env) (a:Act) (t:Tmp):Prop:=Tv r (KL e t) (a.tmps.getD t undef)
theorem Tv.ext {r r':Ren} {v u:Value} (h:Tv r v u) (he:Ext r r'):Tv r' v u:=h.imp id fun h=>⟨by rw[Zad he _ h.2]; exact h.1,VV he.d _ h.2⟩
structure Fits (r:Ren) (nt:Nat) (e:Env) (a:Act):Prop where
 size:a.tmps.size=nt
 defers:a.defers=[]
 tmps:∀ t,Tm r e a t
section
variable {P:Program} {r:Ren} {s s':St} {w:World} {e:Env} {a:Act} {ops:Array Oper} {Q:Exit→Act→World→Prop}
theorem Tm.ext {r':Ren} {t:Tmp} (h:Tm r e a t) (he:Ext r r'):Tm r' e a t:=Tv.ext h he
theorem ZoJ {v:Value} {b:Bool} (h:r.val v = .bool b):v = .bool b:=by
 cases v with
 | bool c=>rw[K5] at h; exact h
 | agg cs=>rw[K4] at h; cases h
 | tuple cs=>rw[Xz] at h; cases h
 | func f x y=>rw[W4] at h; cases h
 | iface t v=>rw[J1] at h; cases h
 | pointer p=>rw[Y4] at h; cases h
 | slice p l c=>rw[ZV] at h; cases h
 | int k n=>rw[YI] at h; cases h
 | string b=>rw[Xs] at h; cases h
 | nilFunc=>rw[Zab] at h; cases h
 | nilIface=>rw[Qq r rfl] at h; cases h
 | float k n=>rw[Qq r rfl] at h; cases h
 | complex k n m=>rw[Qq r rfl] at h; cases h
 | map m=>rw[Ren.val] at h<;>first|(cases h; done)|simp
 | chan m=>rw[Ren.val] at h<;>first|(cases h; done)|simp
theorem ZmZ {o:Oper} (hU:ZpM ops e o=false) (hO:(UC ops e s o).2.O) (hE:∀ t∈o.looksAt ops,Tm r e a t) :
  Yx s (UC ops e s o).2∧Region.wanted o (yielded ops a.tmps)=(UC ops e s o).1:=by
 unfold UC at hO ⊢
 unfold ZpM at hU
 unfold Region.wanted
 cases hg:o.guard with
 | none=>exact⟨.refl _,rfl⟩
 | some jw =>
  obtain⟨j,want⟩:=jw
  rw[hg] at hO hU
  simp only[] at hO hU ⊢
  unfold yielded
  have hj:(ops.toList[j]?).bind (fun o=>o.dst)=(ops[j]?).bind (·.dst):=by rw[Array.getElem?_toList]
  rw[hj] at hO hU ⊢
  cases hd:(ops[j]?).bind (·.dst) with
  | none =>
   simp only[Option.bind_none]
   refine⟨.refl _,?_⟩
   cases want<;>rfl
  | some d =>
   rw[hd] at hO hU
   simp only[Option.bind_some] at hO hU ⊢
   have ht:=(hE d (by unfold Oper.looksAt; rw[hg]; simp[hd])).resolve_left (by rw[hU]; simp)
   cases hv:KL e d with
   | bool b =>
    rw[hv] at hO
    simp only[] at hO ⊢
    refine⟨.test _ _,?_⟩
    rw[Zbm _ _ hO]
    have h1:=ht.1
    rw[hv,K5] at h1
    have hlt:d<a.tmps.size:=by
     rcases Nat.lt_or_ge d a.tmps.size with h|h
     ·exact h
     ·rw[Array.getD_eq_getD_getElem?,Array.getElem?_eq_none h] at h1
      cases h1
    have h2:a.tmps[d]? = some (.bool b):=by
     rw[Array.getElem?_eq_getElem hlt]
     rw[Array.getD_eq_getD_getElem?,Array.getElem?_eq_getElem hlt] at h1
     simpa using h1
    rw[h2]
    cases b<;>cases want<;>rfl
   | _ =>
    simp only[]
    refine⟨.refl _,?_⟩
    have hnb:∀ b,a.tmps[d]? ≠ some (.bool b):=by
     intro b hb
     have h1:=ht.1
     rw[Array.getD_eq_getD_getElem?,hb] at h1
     simp only[Option.getD_some] at h1
     have:=ZoJ h1.symm
     rw[hv] at this
     cases this
    cases hx:a.tmps[d]? with
    | none=>cases want<;>rfl
    | some x =>
     cases x with
     | bool b=>exact absurd hx (hnb b)
     | _=>cases want<;>rfl
theorem ZwF {o:Oper} (hE:∀ t∈o.looksAt ops,Tm r e a t):∀ x∈o.op.operands,ZpV r e a x:=fun x hx =>
 Zs8 fun t ht=>hE t (by
  subst ht
  unfold Oper.looksAt
  exact List.mem_append_left _ (List.mem_filterMap.2 ⟨.tmp t,by simpa using hx,rfl⟩))
theorem ZfF {o:Oper} {call:QM} {v:Value} {i:Nat} (hi:ops[i]? = some o) (h:JV P call ops e s o=some (v,s')) (hO:s'.O) (hE:∀ t∈o.looksAt ops,Tm r e a t)
  (hwf:WFn s) (hg:Good r s w) (hfr:WL r s.n s'.n) (hcall:Zs P call) {K:Act→World→Prop} (hK:∀ r' w',To r s w r' s' w'→bnd r'.d v=true→K (a.put o.dst (r'.val v)) w') :
  s.O∧wpOp P ops Q i K a w:=by
 unfold JV at h
 cases hU:ZpM ops e o<;>rw[hU] at h
 rotate_left
 ·cases h
 simp only[cond_false] at h
 unfold wpOp
 simp only[hi]
 cases hb:(UC ops e s o).1
 ·rw[hb] at h
  simp only[cond_false,Option.some.injEq,Prod.mk.injEq] at h
  obtain⟨rfl,rfl⟩:=h
  obtain⟨h1,h2⟩:=ZmZ hU hO hE
  rw[h2,hb]
  simp only[Bool.false_eq_true,if_false]
  refine⟨h1.2.2.2 hO,?_⟩
  have:=hK r w (h1.to hg) (Zdx _)
  rw[Zf7] at this
  exact this
 ·rw[hb] at h
  simp only[cond_true] at h
  obtain⟨k1,k2⟩:=ZFn h hO (ZwF hE) (w:=w) (r:=r) (a:=a) (s:=(UC ops e s o).2) (by
   unfold UC
   split
   ·exact hg
   ·split
    ·exact hg
    ·split
     ·exact(Yx.test _ _).good hg
     ·exact hg) (by
   have:(UC ops e s o).2.n=s.n:=by
    unfold UC
    split
    ·rfl
    ·split
     ·rfl
     ·split
      ·exact ZaO _ _
      ·rfl
   rw[this]; exact hfr) hcall
  obtain⟨h1,h2⟩:=ZmZ hU k1 hE
  rw[h2,hb]
  simp only[if_true]
  refine⟨h1.2.2.2 k1,.inl ?_⟩
  unfold Oper.wp
  have hto:∀ {r' w'},To r (UC ops e s o).2 w r' s' w'→To r s w r' s' w':=fun h=>(h1.to hg).trans h
  rcases k2 with⟨r',w',hr,h3,h4⟩|⟨f,args,hr,h3,h4⟩
  ·rcases hr with hr|⟨hr,rfl⟩
   ·rw[hr]
    exact hK r' w' (hto h3) h4
   ·rw[hr]
    have:=hK r' w' (hto h3) h4
    rw[Zf7] at this
    exact this
  ·rw[hr]
   refine(h3 r w ((Zhe ops e s o).2.2 hwf) (h1.good hg) (by rw[h1.1]; exact hfr) h4).mono ?_
   rintro e' w' ⟨r',rfl,h5,h6⟩
   exact hK r' w' (hto h5) h6
theorem ZBo {nt:Nat} {e':Env} {dst:Option Tmp} {v:Value} {r':Ren} (h:Zwv nt e dst v=some e') (hf:Fits r nt e a) (he:Ext r r') (hv:bnd r'.d v=true):Fits r' nt e' (a.put dst (r'.val v)):=by
 unfold Zwv at h
 cases dst with
 | none =>
  simp only[Option.some.injEq] at h
  subst h
  exact⟨hf.size,hf.defers,fun t=>(hf.tmps t).ext he⟩
 | some d =>
  simp only[] at h
  cases hb:Nat.blt d nt
  ·rw[hb] at h; cases h
  rw[hb] at h
  simp only[cond_true,Option.some.injEq] at h
  subst h
  have hlt:d<nt:=by simpa using hb
  refine⟨by simp[Act.put,hf.size],by simp[Act.put,hf.defers],fun t => ?_⟩
  unfold Tm
  rw[Zgc]
  by_cases ht:t=d
  ·subst ht
   rw[if_pos rfl]
   refine .inr ⟨?_,hv⟩
   simp only[Act.put,Array.getD_eq_getD_getElem?]
   rw[Array.getElem?_setIfInBounds_self_of_lt (by rw[hf.size]; exact hlt)]
   rfl
  ·rw[if_neg ht]
   refine((hf.tmps t).ext he).imp id fun this=>⟨?_,this.2⟩
   simp only[Act.put,Array.getD_eq_getD_getElem?]
   rw[Array.getElem?_setIfInBounds_ne (Ne.symm ht),← Array.getD_eq_getD_getElem?]
   exact this.1
theorem Zs.mono {call:QM} (h:Zs P call):∀ f args s v s',call f args s=some (v,s')→WX s s':=fun f args s v s' hc=>(h f args s v s' hc).1
theorem ZpX {call:QM} {nt:Nat} (hcall:Zs P call):∀ (l:List Oper) (k:Nat) (f f':Fr) (r:Ren) (a:Act) (w:World),ZmP P call nt ops l f=some f'→f'.s.O→ops.toList.drop k=l →
  Fits r nt f.e a→WFn f.s→Good r f.s w→WL r f.s.n f'.s.n→(∀ r' a' w',To r f.s w r' f'.s w'→Fits r' nt f'.e a'→Q .normal a' w') →
  wpOps P ops Q (List.range' k l.length) a w
 | [],k,f,f',r,a,w,h,_,_,hf,_,hg,_,hQ=>by
  simp only[ZmP,Option.some.injEq] at h
  subst h
  exact hQ r a w (To.refl hg) hf
 | o::l,k,f,f',r,a,w,h,hO,hl,hf,hwf,hg,hfr,hQ=>by
  simp only[ZmP] at h
  replace h:=oB h
  obtain⟨⟨v,s1⟩,h1,h⟩:=h
  replace h:=oB h
  obtain⟨e1,h2,h⟩:=h
  have hi:ops[k]? = some o:=by
   have:=congrArg (fun l=>l[0]?) hl
   simp only[List.getElem?_drop,List.getElem?_cons_zero,Nat.add_zero] at this
   rw[Array.getElem?_toList] at this
   exact this
  have hl':ops.toList.drop (k+1)=l:=by
   have:=congrArg List.tail hl
   rw[List.tail_drop] at this
   exact this
  have hm:=ZlC hcall.mono l _ _ h
  rw[List.length_cons,List.range'_succ,wpOps_cons]
  refine(ZfF hi h1 (hm.2.1 hO) (fun t _=>hf.tmps t) hwf hg (hfr.sub (Nat.le_refl _) hm.1) hcall ?_).2
  intro r' w' hto hb
  exact ZpX hcall l (k+1) ⟨e1,s1⟩ f' r' _ w' h hO hl' (ZBo h2 hf hto.ext hb) ((ZaS hcall.mono h1).2.2 hwf) hto.good (hto.fresh hfr) (fun r2 a2 w2 h3 h4=>hQ r2 a2 w2 (hto.trans h3) h4)
end
end Go.Proofs.YtagacmljbgkmoaaGreatDoor.Sy
namespace Go.Proofs.YtagacmljbgkmoaaGreatDoor.Sy
open Go.IntKind (u8 u16 u32 u64 i64)
open Go.RowKit
def ZpY (P:Program) (call:QM):Prop:=∀ (nt id:Nat) (ops:Array Oper) (f f':Fr),ZsT P call nt ops f=some f'→WX f.s f'.s∧(f'.s.O→∀ (r:Ren) (a:Act) (w:World) (Q:Exit→Act→World→Prop),
 Fits r nt f.e a→WFn f.s→Good r f.s w→WL r f.s.n f'.s.n→(∀ r' a' w',To r f.s w r' f'.s w'→Fits r' nt f'.e a'→Q .normal a' w')→(Code.region id ops true).wp P Q a w)
def Zkx (P:Program) (c:Code) (Q:Exit→Act→World→Prop) (a:Act) (w:World):Prop :=
 ∀ (b:Frame) (k:List Item) (cs:List Frame),∃ e a' w',Q e a' w'∧Arrives P (lone (b.at a (.code c :: .inLoop c::k)) cs w) b k cs e a' w'
theorem Ztd {P:Program} {c:Code} {Q:Exit→Act→World→Prop} {a:Act} {w:World} (h:Zkx P c Q a w):(Code.loop c).wp P Q a w:=by
 intro b k cs
 obtain⟨e,a',w',hq,harr⟩:=h b k cs
 exact⟨e,a',w',hq,.of_steps (.one step_loop) harr⟩
theorem UX {P:Program} {c:Code} {Q:Exit→Act→World→Prop} {a:Act} {w:World} (h:c.wp P (Exit.then (Zkx P c Q) Q) a w):Zkx P c Q a w:=by
 intro b k cs
 obtain⟨e,a₁,w₁,hq,harr⟩:=h b (.inLoop c::k) cs
 cases e with
 | normal =>
  obtain⟨e₂,a₂,w₂,hq₂,harr₂⟩:=hq b k cs
  exact⟨e₂,a₂,w₂,hq₂,.of_steps (Steps.trans harr (.one step_inLoop)) harr₂⟩
 | exit id=>exact⟨_,a₁,w₁,hq,.pass (x:=.inLoop c) rfl (fun _ _ => .inl (by simp)) harr⟩
 | goto l=>exact⟨_,a₁,w₁,hq,.pass (x:=.inLoop c) rfl (fun _ _ => .inl (by simp)) harr⟩
 | ret=>exact⟨_,a₁,w₁,hq,.pass (x:=.inLoop c) rfl (fun _ _ => .inl (by simp)) harr⟩
 | panic ch=>exact⟨_,a₁,w₁,hq,.pass (x:=.inLoop c) rfl (fun _ _ => .inl (by simp)) harr⟩
 | outgrown=>exact⟨_,a₁,w₁,hq,.pass (x:=.inLoop c) rfl (fun _ _ => .inl (by simp)) harr⟩
def Vh (P:Program) (nt:Nat) (c:Code) (f:Fr) (x:Exit) (f':Fr):Prop:=∀ (r:Ren) (a:Act) (w:World) (Q:Exit→Act→World→Prop),
 Fits r nt f.e a→WFn f.s→Good r f.s w→WL r f.s.n f'.s.n→(∀ r' a' w',To r f.s w r' f'.s w'→Fits r' nt f'.e a'→Q x a' w')→Zkx P c Q a w
def Wa:Code→List Code
 | .seq a b=>Wa a++Wa b
 | .cond _ a b=>Wa a++Wa b
 | .block _ a=>Wa a
 | .loop c=>c::Wa c
 | _=>[]
def Wg (P:Program) (S:List Code) (lp:Zfz):Prop:=∀ (nt:Nat) (c:Code) (f f':Fr) (x:Exit),lp nt c f=some (x,f')→WX f.s f'.s∧(c∈S→f'.s.O→Vh P nt c f x f')
theorem YJ (p:Nat→Bool):∀ (h:Heap) (g:Nat),look (h.filter fun x=>p x.1) g=if p g=true then look h g else none
 | [],g=>by simp[look]
 | x::h,g=>by
  rw[List.filter_cons]
  cases hp:p x.1
  ·simp only[Bool.false_eq_true,if_false]
   rw[YJ p h g,Qs]
   by_cases hg:g=x.1
   ·subst hg; simp[hp]
   ·simp[hg]
  ·simp only[if_true]
   rw[Qs,Qs,YJ p h g]
   by_cases hg:g=x.1
   ·subst hg; simp[hp]
   ·simp[hg]
section
variable {P:Program} {r:Ren} {s s':St} {w:World} {e:Env} {a:Act} {Q:Exit→Act→World→Prop}
theorem Good.sub' (h:Good r s w) (hh:∀ g k,look s'.h g=some k→∃ k',look s.h g=some k'∧(k.op=k'.op∨(k.rw=false∧k.op=some (0,0)∧k.it=none))∧k.cells=k'.cells∧k.it=k'.it∧(k.rw=true→k'.rw=true)) (hl:∀ x∈s'.lo,x∈s.lo):Good r s' w:=by
 refine⟨fun g k hk => ?_,fun g g' k k' h1 h2 hrw h3 => ?_,fun g k hk => ?_,fun x hx=>h.lo x (hl x hx)⟩
 ·obtain⟨k',h1,h2,h3,h4,h5⟩:=hh g k hk
  rcases h.is g k' h1 with⟨hi,g0⟩|⟨x,g1,g2,g3⟩
  rotate_left
  ·rcases h2 with h2|⟨_,_,h2⟩
   ·exact .inr ⟨x,h4.trans g1,g2,h3.trans g3.1,h2.trans g3.2.1,g3.2.2⟩
   ·rw[h4,g1] at h2; cases h2
  obtain⟨arr,ty,fr,g1,g2,g3,g4⟩:=g0
  refine .inl ⟨h4.trans hi,arr,ty,fr,g1,?_,?_,fun hrw=>g4 (h5 hrw)⟩
  ·rcases h2 with h2|⟨h2,h2',_⟩
   ·rw[h2,h3]
    cases hop:k'.op with
    | none=>rw[hop] at g2; exact g2
    | some p =>
     rw[hop] at g2
     refine⟨g2.1.imp (fun h => ?_) id,g2.2⟩
     cases hrw:k.rw
     ·rfl
     ·rw[h5 hrw] at h; cases h
   ·rw[h2',h3]
    refine⟨.inl h2,?_⟩
    cases hop:k'.op with
    | none=>rw[hop] at g2; simp only[] at g2; omega
    | some p=>rw[hop] at g2; exact g2.2
  ·rw[h3]; exact g3
 ·obtain⟨_,h4,_,_,_,h6⟩:=hh g k h1
  obtain⟨_,h5,_⟩:=hh g' k' h2
  exact h.inj _ _ _ _ h4 h5 (h6 hrw) h3
 ·obtain⟨k',h1,h2,h3,_⟩:=hh g k hk
  obtain⟨g1,g2,g3⟩:=h.lt g k' h1
  refine⟨g1,?_,?_⟩
  ·rcases h2 with h2|⟨_,h2',_⟩
   ·rw[h2]; exact g2
   ·intro p hp; rw[h2'] at hp; cases hp; exact r.hd 0 (by decide)
  ·rw[h3]; exact g3
theorem Good.sub (h:Good r s w) (hh:∀ g k,look s'.h g=some k→∃ k',look s.h g=some k'∧k.op=k'.op∧k.cells=k'.cells∧k.it=k'.it∧(k.rw=true→k'.rw=true)) (hl:∀ x∈s'.lo,x∈s.lo):Good r s' w:=by
 refine⟨fun g k hk => ?_,fun g g' k k' h1 h2 hrw h3 => ?_,fun g k hk => ?_,fun x hx=>h.lo x (hl x hx)⟩
 ·obtain⟨k',h1,h2,h3,h4,h5⟩:=hh g k hk
  rcases h.is g k' h1 with⟨hi,g0⟩|⟨x,g1,g2,g3⟩
  rotate_left
  ·exact .inr ⟨x,h4.trans g1,g2,h3.trans g3.1,h2.trans g3.2.1,g3.2.2⟩
  obtain⟨arr,ty,fr,g1,g2,g3,g4⟩:=g0
  refine .inl ⟨h4.trans hi,arr,ty,fr,g1,?_,?_,fun hrw=>g4 (h5 hrw)⟩
  ·rw[h2,h3]
   cases hop:k'.op with
   | none=>rw[hop] at g2; exact g2
   | some p =>
    rw[hop] at g2
    refine⟨g2.1.imp (fun h => ?_) id,g2.2⟩
    cases hrw:k.rw
    ·rfl
    ·rw[h5 hrw] at h; cases h
  ·rw[h3]; exact g3
 ·obtain⟨_,h4,_,_,_,h6⟩:=hh g k h1
  obtain⟨_,h5,_⟩:=hh g' k' h2
  exact h.inj _ _ _ _ h4 h5 (h6 hrw) h3
 ·obtain⟨k',h1,h2,h3,_⟩:=hh g k hk
  obtain⟨g1,g2,g3⟩:=h.lt g k' h1
  refine⟨g1,?_,?_⟩
  ·rw[h2]; exact g2
  ·rw[h3]; exact g3
theorem To.start {s1:St} {r':Ren} {w':World} (h:To r s1 w r' s' w') (hn:s1.n=s.n) (hh:s1.h=s.h) (hl:s1.lo=s.lo):To r s w r' s' w' :=
 ⟨h.ext,by rw[← hn]; exact h.dom,by rw[← hn]; exact h.le,h.good0.same hh.symm hl.symm,h.good,h.os,h.tape,h.output,h.size,by rw[← hh]; exact h.frame,by rw[← hh]; exact h.own⟩
theorem To.finish {s1:St} {r':Ren} {w':World} (h:To r s w r' s' w') (hn:s1.n=s'.n) (hh:∀ g k,look s1.h g=some k→look s'.h g=some k) (hl:s1.lo=s'.lo):To r s w r' s1 w' :=
 ⟨h.ext,by rw[hn]; exact h.dom,by rw[hn]; exact h.le,h.good0,h.good.sub (fun g k hk=>⟨k,hh g k hk,rfl,rfl,rfl,id⟩) (by rw[hl]; exact fun _ h=>h),h.os,h.tape,h.output,h.size,h.frame,fun g k hk=>h.own g k (hh g k hk)⟩
theorem ZiV (s s':St) (v:Value):(Zik s s' v).n=s'.n:=by unfold Zik; cases (XD v&&Nat.ble s.n s'.esc)<;>rfl
theorem Zte (s s':St) (v:Value):(Zik s s' v).O=s'.O:=by unfold Zik; cases (XD v&&Nat.ble s.n s'.esc)<;>rfl
theorem ZpZ (s s':St) (v:Value):(Zik s s' v).lo=s'.lo:=by unfold Zik; cases (XD v&&Nat.ble s.n s'.esc)<;>rfl
theorem Ztf (s s':St) (v:Value) (g:Nat) (k:Blk) (h:look (Zik s s' v).h g=some k):look s'.h g=some k:=by
 unfold Zik at h
 cases hb:(XD v&&Nat.ble s.n s'.esc)
 ·rw[hb] at h; exact h
 ·rw[hb] at h
  simp only[cond_true,ZsU] at h
  rw[YJ (fun x=>Nat.blt x s.n)] at h
  split at h
  ·exact h
  ·cases h
theorem UE {call:QM} {lp:Zfz} {nt:Nat} (hcall:Zs P call) {S:List Code} (hlp:Wg P S lp) (hdraw:ZpY P call):∀ (k:Nat) (c:Code) (f f':Fr) (x:Exit),evC P call lp nt k c f=some (x,f')→WX f.s f'.s
 | 0,c,f,f',x,h=>by simp[evC] at h
 | k+1,c,f,f',x,h=>by
  cases c<;>simp only[evC] at h
  case skip=>simp only[Option.some.injEq,Prod.mk.injEq] at h; rw[← h.2]; exact .refl _
  case label l=>simp only[Option.some.injEq,Prod.mk.injEq] at h; rw[← h.2]; exact .refl _
  case exit id=>simp only[Option.some.injEq,Prod.mk.injEq] at h; rw[← h.2]; exact .refl _
  case ret=>simp only[Option.some.injEq,Prod.mk.injEq] at h; rw[← h.2]; exact .refl _
  case region id ops draw =>
   obtain⟨f1,h1,h⟩:=oM h
   simp only[Prod.mk.injEq] at h
   obtain⟨rfl,rfl⟩:=h
   cases draw
   ·exact ZlC hcall.mono _ _ _ h1
   ·exact(hdraw nt id ops f f1 h1).1
  case seq c1 c2 =>
   split at h
   ·rename_i f1 h1
    exact(UE hcall hlp hdraw k c1 f f1 .normal h1).trans (UE hcall hlp hdraw k c2 f1 f' x h)
   ·exact UE hcall hlp hdraw k c1 f f' x h
  case cond o c1 c2 =>
   split at h
   ·rename_i t _
    exact(WX.test t f.s).trans (UE hcall hlp hdraw k _ _ f' x h)
   ·cases h
  case block id c1 =>
   split at h
   ·rename_i i f1 h1
    have:=UE hcall hlp hdraw k c1 f f1 _ h1
    cases hb:Nat.beq i id<;>rw[hb] at h<;>simp only[cond_true,cond_false,Option.some.injEq,Prod.mk.injEq] at h<;>rw[← h.2]<;>exact this
   ·exact UE hcall hlp hdraw k c1 f f' x h
  case loop c1 =>
   split at h
   ·rename_i y hy
    simp only[Option.some.injEq] at h
    subst h
    exact(hlp nt c1 f f' x hy).1
   split at h
   ·rename_i f1 h1
    exact(UE hcall hlp hdraw k c1 f f1 .normal h1).trans (UE hcall hlp hdraw k (.loop c1) f1 f' x h)
   ·exact UE hcall hlp hdraw k c1 f f' x h
  all_goals cases h
theorem ZbF {call:QM} {lp:Zfz} {nt:Nat} (hcall:Zs P call) {S:List Code} (hlp:Wg P S lp) (hdraw:ZpY P call):∀ (k:Nat) (c:Code) (f f':Fr) (x:Exit),(∀ c'∈Wa c,c'∈S)→evC P call lp nt k c f=some (x,f')→f'.s.O →
  ∀ (r:Ren) (a:Act) (w:World) (Q:Exit→Act→World→Prop),Fits r nt f.e a→WFn f.s→Good r f.s w→WL r f.s.n f'.s.n→(∀ r' a' w',To r f.s w r' f'.s w'→Fits r' nt f'.e a'→Q x a' w') →
  c.wp P Q a w∧∀ c1,c = .loop c1→Zkx P c1 Q a w
 | 0,c,f,f',x,_,h,_,r,a,w,Q,_,_,_,_,_=>by simp[evC] at h
 | k+1,c,f,f',x,hS,h,hO,r,a,w,Q,hf,hwf,hg,hfr,hQ=>by
  cases c<;>simp only[evC] at h<;>simp only[Wa,List.mem_append,List.mem_cons,List.not_mem_nil,false_imp_iff,implies_true] at hS
  case skip =>
   simp only[Option.some.injEq,Prod.mk.injEq] at h
   obtain⟨rfl,rfl⟩:=h
   exact⟨wp_skip (hQ r a w (To.refl hg) hf),fun c1 h=>by cases h⟩
  case label l =>
   simp only[Option.some.injEq,Prod.mk.injEq] at h
   obtain⟨rfl,rfl⟩:=h
   exact⟨wp_label (hQ r a w (To.refl hg) hf),fun c1 h=>by cases h⟩
  case exit id =>
   simp only[Option.some.injEq,Prod.mk.injEq] at h
   obtain⟨rfl,rfl⟩:=h
   exact⟨wp_exit (hQ r a w (To.refl hg) hf),fun c1 h=>by cases h⟩
  case ret =>
   simp only[Option.some.injEq,Prod.mk.injEq] at h
   obtain⟨rfl,rfl⟩:=h
   exact⟨wp_ret (hQ r a w (To.refl hg) hf),fun c1 h=>by cases h⟩
  case region id ops draw =>
   obtain⟨f1,h1,h⟩:=oM h
   simp only[Prod.mk.injEq] at h
   obtain⟨rfl,rfl⟩:=h
   refine⟨?_,fun c1 h=>by cases h⟩
   cases draw
   ·refine wp_region ?_
    have:=ZpX (Q:=Q) hcall ops.toList 0 f f1 r a w h1 hO rfl hf hwf hg hfr hQ
    rw[List.range_eq_range']
    simpa using this
   ·exact(hdraw nt id ops f f1 h1).2 hO r a w Q hf hwf hg hfr hQ
  case seq c1 c2 =>
   refine⟨?_,fun c1 h=>by cases h⟩
   split at h
   ·rename_i f1 h1
    have hm:=UE hcall hlp hdraw k c2 f1 f' x h
    have hm1:=UE hcall hlp hdraw k c1 f f1 _ h1
    refine wp_seq (ZbF hcall hlp hdraw k c1 f f1 .normal (fun c' h'=>hS c' (.inl h')) h1 (hm.2.1 hO) r a w _ hf hwf hg (hfr.sub (Nat.le_refl _) hm.1) ?_).1
    intro r1 a1 w1 ht hf1
    exact(ZbF hcall hlp hdraw k c2 f1 f' x (fun c' h'=>hS c' (.inr h')) h hO r1 a1 w1 Q hf1 ((UE hcall hlp hdraw k c1 f f1 _ h1).2.2 hwf) ht.good (ht.fresh hfr) fun r2 a2 w2 ht2 hf2=>hQ r2 a2 w2 (ht.trans ht2) hf2).1
   ·rename_i hne
    refine wp_seq (ZbF hcall hlp hdraw k c1 f f' x (fun c' h'=>hS c' (.inl h')) h hO r a w _ hf hwf hg hfr ?_).1
    intro r1 a1 w1 ht hf1
    have:=hQ r1 a1 w1 ht hf1
    cases x with
    | normal=>exact absurd h (hne _)
    | _=>exact this
  case cond o c1 c2 =>
   refine⟨?_,fun c1 h=>by cases h⟩
   split at h
   ·rename_i t ht
    have hm:=UE hcall hlp hdraw k _ _ f' x h
    have hO1:=hm.2.1 hO
    have hs:=(Zs8 (fun t _=>hf.tmps t):ZpV r f.e a o) _ ht
    rw[Zbm _ _ hO1] at h
    rw[K5] at hs
    refine wp_cond hs.1 ?_
    have:=(ZbF hcall hlp hdraw k _ _ f' x (by cases t<;>first|exact fun c' h'=>hS c' (.inl h')|exact fun c' h'=>hS c' (.inr h')) h hO r a w Q hf ((WX.test t f.s).2.2 hwf) (Yx.good (.test t f.s) hg) (by rw[ZaO]; exact hfr) (fun r2 a2 w2 h2 h3=>hQ r2 a2 w2 (h2.start (ZaO _ _) (ZmR _ _) (ZiL _ _)) h3)).1
    cases t<;>exact this
   ·cases h
  case block id c1 =>
   refine⟨?_,fun c1 h=>by cases h⟩
   split at h
   ·rename_i i f1 h1
    have hff:f1=f':=by cases hb:Nat.beq i id<;>rw[hb] at h<;>simp only[cond_true,cond_false,Option.some.injEq,Prod.mk.injEq] at h<;>exact h.2
    subst hff
    refine wp_block (ZbF hcall hlp hdraw k c1 f f1 _ hS h1 hO r a w _ hf hwf hg hfr ?_).1
    intro r1 a1 w1 ht hf1
    have hq:=hQ r1 a1 w1 ht hf1
    cases hb:Nat.beq i id
    ·rw[hb] at h
     simp only[cond_false,Option.some.injEq,Prod.mk.injEq] at h
     rw[← h.1] at hq
     have hne:i≠id:=fun e=>by rw[e,Nat.beq_refl] at hb; cases hb
     simp only[Exit.inBlock,hne,if_false]
     exact hq
    ·rw[hb] at h
     simp only[cond_true,Option.some.injEq,Prod.mk.injEq] at h
     rw[← h.1] at hq
     simp only[Exit.inBlock,eB hb,if_true]
     exact hq
   ·rename_i hne
    refine wp_block (ZbF hcall hlp hdraw k c1 f f' x hS h hO r a w _ hf hwf hg hfr ?_).1
    intro r1 a1 w1 ht hf1
    have:=hQ r1 a1 w1 ht hf1
    cases x with
    | exit i=>exact absurd h (hne _ _)
    | _=>exact this
  case loop c1 =>
   have hr:Zkx P c1 Q a w:=by
    split at h
    ·rename_i y hy
     simp only[Option.some.injEq] at h
     subst h
     exact(hlp nt c1 f f' x hy).2 (hS c1 (.inl rfl)) hO r a w Q hf hwf hg hfr hQ
    refine UX ?_
    split at h
    ·rename_i f1 h1
     have hm:=UE hcall hlp hdraw k (.loop c1) f1 f' x h
     refine(ZbF hcall hlp hdraw k c1 f f1 .normal (fun c' h'=>hS c' (.inr h')) h1 (hm.2.1 hO) r a w _ hf hwf hg (hfr.sub (Nat.le_refl _) hm.1) ?_).1
     intro r1 a1 w1 ht hf1
     exact(ZbF hcall hlp hdraw k (.loop c1) f1 f' x (by simp only[Wa,List.mem_cons]; exact hS) h hO r1 a1 w1 Q hf1 ((UE hcall hlp hdraw k c1 f f1 _ h1).2.2 hwf) ht.good (ht.fresh hfr) fun r2 a2 w2 ht2 hf2=>hQ r2 a2 w2 (ht.trans ht2) hf2).2 c1 rfl
    ·rename_i hne
     refine(ZbF hcall hlp hdraw k c1 f f' x (fun c' h'=>hS c' (.inr h')) h hO r a w _ hf hwf hg hfr ?_).1
     intro r1 a1 w1 ht hf1
     have:=hQ r1 a1 w1 ht hf1
     cases x with
     | normal=>exact absurd h (hne _)
     | _=>exact this
   exact⟨Ztd hr,fun c2 h=>by cases h; exact hr⟩
  all_goals cases h
end
end Go.Proofs.YtagacmljbgkmoaaGreatDoor.Sy
namespace Go.Proofs.YtagacmljbgkmoaaGreatDoor.Sy
open Go.IntKind (u8 u16 u32 u64 i64)
open Go.RowKit
section
variable {P:Program} {r:Ren} {s s':St} {w:World} {e:Env} {a:Act}
theorem Zp0 (t:Nat):KL [] t=undef:=by unfold KL; rw[Zlo,Zlo]
theorem Zky:∀ (l:List Value) (k:Nat) (e:Env) (t:Nat),KL (Zkr l k e) t=if k≤t∧t<k+l.length then l.getD (t-k) undef else KL e t
 | [],k,e,t=>by rw[Zkr,if_neg (by simp)]
 | v::l,k,e,t=>by
  rw[Zkr,Zky l (k+1) _ t,Zgc]
  by_cases h:k+1≤t∧t<k+1+l.length
  ·rw[if_pos h,if_pos (by simp only[List.length_cons]; omega),show t-k=(t-(k+1))+1 by omega]
   simp
  ·rw[if_neg h]
   by_cases h2:t=k
   ·subst h2
    rw[if_pos rfl,if_pos (by simp only[List.length_cons]; omega)]
    simp
   ·rw[if_neg h2,if_neg (by simp only[List.length_cons]; omega)]
theorem Zrx {args:List Value} {nt:Nat} (hl:args.length≤nt) (hb:∀ u∈args,bnd r.d u=true) :
  Fits r nt (Zkr args 0 []) { tmps:=(args.map r.val).toArray++Array.replicate (nt-(args.map r.val).toArray.size) undef,defers:=[] }:=by
 refine⟨by simp only[Array.size_append,List.size_toArray,List.length_map,Array.size_replicate]; omega,rfl,fun(t:Nat) => ?_⟩
 unfold Tm
 refine .inr ?_
 rw[Zky]
 by_cases h:0≤t∧t<0+args.length
 ·rw[if_pos h]
  have hlt:t<args.length:=by omega
  rw[Nat.sub_zero,List.getD_eq_getElem?_getD,List.getElem?_eq_getElem hlt,Option.getD_some]
  refine⟨?_,hb _ (List.getElem_mem hlt)⟩
  rw[Array.getD_eq_getD_getElem?,Array.getElem?_append_left (by simpa using hlt)]
  simp[hlt]
 ·rw[if_neg h,Zp0]
  refine⟨?_,Zdx _⟩
  rw[Zf7,Array.getD_eq_getD_getElem?,Array.getElem?_append_right (by rw[List.size_toArray,List.length_map]; omega)]
  simp only[Array.getElem?_replicate]
  split<;>rfl
theorem VW:∀ (l:List ResultVar) (s:St) (vs:List Value) (s':St),Vw P e l s=some (vs,s')→WX s s'
 | [],s,vs,s',h=>by simp only[Vw,Option.some.injEq,Prod.mk.injEq] at h; rw[← h.2]; exact .refl _
 | .tmp t::l,s,vs,s',h=>by
  simp only[Vw] at h
  obtain⟨x,h1,h2⟩:=oM (ZlB h)
  simp only[Prod.mk.injEq] at h2
  rw[← h2.2]; exact VW l s x.1 x.2 h1
 | .cell p t::l,s,vs,s',h=>by
  simp only[Vw] at h
  split at h
  ·replace h:=oB h
   obtain⟨v,hv,h⟩:=h
   obtain⟨x,h1,h2⟩:=oM h
   simp only[Prod.mk.injEq] at h2
   rw[← h2.2]; exact(ZmY hv).trans (VW l v.2 x.1 x.2 h1)
  ·cases h
theorem ZfG (hT:∀ t,Tm r e a t):∀ (l:List ResultVar) (s:St) (vs:List Value) (s':St),Vw P e l s=some (vs,s')→Good r s w→s'.O →
  (l.mapM fun x=>match x with
   | .tmp t=>pure (a.tmps.getD t undef)
   | .cell p t=>do loadVar t (← asAddr (a.tmps.getD p undef)):Sem (List Value)).run P w = .ok (vs.map r.val) w∧(∀ v∈vs,bnd r.d v=true)∧To r s w r s' w
 | [],s,vs,s',h,hg,_=>by simp only[Vw,Option.some.injEq,Prod.mk.injEq] at h; obtain⟨rfl,rfl⟩:=h; exact⟨rfl,fun v hv=>(by cases hv),To.refl hg⟩
 | .tmp t::l,s,vs,s',h,hg,hO=>by
  simp only[Vw] at h
  cases hu:isU (KL e t)<;>rw[hu] at h
  rotate_left
  ·cases h
  simp only[cond_false] at h
  obtain⟨⟨vs',s1⟩,h1,h⟩:=oM h
  simp only[Prod.mk.injEq] at h
  obtain⟨rfl,rfl⟩:=h
  obtain⟨h2,h3,h6⟩:=ZfG hT l s vs' s1 h1 hg hO
  obtain⟨h4,h5⟩:=(hT t).resolve_left (by rw[hu]; simp)
  refine⟨?_,fun v hv => ?_,h6⟩
  ·simp only[List.mapM_cons,Sem.run_bind,Sem.run_pure,Result.andThen_ok,h2,h4,List.map_cons]
  ·rcases List.mem_cons.1 hv with rfl|hv
   ·exact h5
   ·exact h3 v hv
 | .cell p t::l,s,vs,s',h,hg,hO=>by
  simp only[Vw] at h
  split at h
  ·rename_i ad hp
   replace h:=oB h
   obtain⟨⟨v,s1⟩,hv,h⟩:=h
   obtain⟨⟨vs',s2⟩,h1,h⟩:=oM h
   simp only[Prod.mk.injEq] at h
   obtain⟨rfl,rfl⟩:=h
   have hO1:=(VW l s1 vs' s2 h1).2.1 hO
   obtain⟨_,h6,h7,h8⟩:=ZiM (P:=P) hv hg hO1
   obtain⟨h2,h3,h9⟩:=ZfG hT l s1 vs' s2 h1 h8.good hO
   obtain⟨h4,h5⟩:=(hT p).resolve_left (by rw[hp]; simp[isU])
   rw[hp,Y4,Option.map_some] at h4
   refine⟨?_,fun v hv => ?_,h8.trans h9⟩
   ·have h8:(asAddr (.pointer (some (r.addr ad)))).run P w = .ok (r.addr ad) w:=rfl
    simp only[List.mapM_cons,Sem.run_bind,Sem.run_pure,Result.andThen_ok,h4,h8,h6,h2,List.map_cons]
   ·rcases List.mem_cons.1 hv with rfl|hv
    ·exact h7
    ·exact h3 v hv
  ·cases h
theorem Zry (hg:Good r s w) (hT:∀ t,Tm r e a t) {fn:Func} {vs:List Value} (h:Vw P e fn.results.toList s=some (vs,s')) (hO:s'.O) :
  (results fn a.tmps).run P w = .ok (r.val (Zdv vs)) w∧bnd r.d (Zdv vs)=true∧To r s w r s' w:=by
 obtain⟨h1,h2,h3⟩:=ZfG hT _ _ _ _ h hg hO
 have hr:(results fn a.tmps).run P w = .ok (if h:((vs.map r.val).toArray).size=1 then((vs.map r.val).toArray)[0] else .tuple (vs.map r.val).toArray) w:=by
  unfold results
  rw[Array.mapM_eq_mapM_toList]
  simp only[Sem.run_bind,Sem.run_map]
  have h1':∀ g:ResultVar→Sem Value,(∀ x,g x=match x with
   | .tmp t=>pure (a.tmps.getD t undef)
   | .cell p t=>do loadVar t (← asAddr (a.tmps.getD p undef)))→(fn.results.toList.mapM g).run P w = .ok (vs.map r.val) w:=fun g hg=>by
   rw[← h1]; congr 2; funext x; exact hg x
  rw[h1' _ (fun x=>by cases x<;>rfl)]
  rfl
 rw[hr]
 match vs,h2 with
 | [],_=>exact⟨by simp[Zdv,Xz],by simp[Zdv,Xj],h3⟩
 | [v],h2=>exact⟨by simp[Zdv],by simpa [Zdv] using h2 v (by simp),h3⟩
 | v::u::l,h2=>exact⟨by simp[Zdv,Xz],by
   simp only[Zdv]
   rw[Xj,Array.all_eq_true_iff_forall_mem]
   exact fun x hx=>h2 x (by simpa using hx),h3⟩
def ZfH (P:Program):Bool:=P.funcs.all fun fn => !(fn.name == "runtime.NumGoroutine")
theorem Zm0 {f:FuncId} {fn:Func} {c:Code} (hn:ZfH P=true) (hf:P.funcs[f]? = some fn) (hb:fn.body=some c):ZcY P f:=by
 intro args w
 have h1:=Array.all_eq_true_iff_forall_mem.1 hn fn (Array.mem_of_getElem? hf)
 have h2:(fn.name == "runtime.NumGoroutine")=false:=by simpa using h1
 unfold callFunc
 simp only[Sem.run_bind,run_program,Result.andThen_ok,hf,h2,hb,Option.isNone_some,Bool.false_eq_true,if_false,Sem.run_pure]
theorem ZAf {base:QM} {lp:FuncId→Zfz} {L:Nat} (hn:ZfH P=true) (hbase:Zs P base) (hlp:∀ f fn c,P.funcs[f]? = some fn→fn.body=some c→Wg P (Wa c) (lp f)) (hdraw:∀ call,Zs P call→ZpY P call):∀ k,Zs P (evF P base lp L k)
 | 0=>hbase
 | k+1=>by
  intro f args s v s' h
  simp only[evF] at h
  split at h
  ·rename_i x hb
   simp only[Option.some.injEq] at h
   subst h
   exact hbase f args s v s' hb
  ·replace h:=oB h
   obtain⟨fn,hf,h⟩:=h
   replace h:=oB h
   obtain⟨c,hc,h⟩:=h
   obtain⟨hlen,h⟩:=Qy h
   replace h:=oB h
   obtain⟨⟨x,f1⟩,h1,h⟩:=h
   simp only[] at h
   have hcall:=ZAf (L:=L) hn hbase hlp hdraw k
   have hd:=hdraw _ hcall
   have hx:∃ vs s2,Vw P f1.e fn.results.toList f1.s=some (vs,s2)∧v=Zdv vs∧s'=Zik s s2 (Zdv vs)∧(x = .normal∨x = .ret):=by
    split at h
    ·obtain⟨⟨vs,s2⟩,h2,h3⟩:=oM h
     simp only[Prod.mk.injEq] at h3
     exact⟨vs,s2,h2,h3.1.symm,h3.2.symm,.inl rfl⟩
    ·obtain⟨⟨vs,s2⟩,h2,h3⟩:=oM h
     simp only[Prod.mk.injEq] at h3
     exact⟨vs,s2,h2,h3.1.symm,h3.2.symm,.inr rfl⟩
    ·cases h
   obtain⟨vs,s2,h2,rfl,rfl,hx⟩:=hx
   have hlf:=hlp f fn c hf hc
   have hm:=UE hcall hlf hd L c _ _ _ h1
   have hm2:=hm.trans (VW _ _ _ _ h2)
   refine⟨⟨by rw[ZiV]; exact hm2.1,fun hO=>hm2.2.1 (by rw[Zte] at hO; exact hO),fun hw=>⟨fun g k hk=>by rw[ZiV]; exact(hm2.2.2 hw).1 g k (Ztf _ _ _ g k hk),fun x hx=>by rw[ZiV]; rw[ZpZ] at hx; exact(hm2.2.2 hw).2 x hx⟩⟩,fun hO=>⟨Zm0 hn hf hc,?_⟩⟩
   intro r w hwf hg hfr hb
   rw[ZiV] at hfr
   rw[Zte] at hO
   have hle:args.length≤fn.ntmps:=Nat.le_of_ble_eq_true hlen
   have hgs:Good r { s with esc:=s.n } w:=hg.same rfl rfl
   refine calls_of_wp hf hc ?_
   have hO1:=(VW _ _ _ _ h2).2.1 hO
   refine(ZbF hcall hlf hd L c _ _ _ (fun _ h=>h) h1 hO1 r _ w _ (Zrx hle hb) hwf hgs (hfr.sub (Nat.le_refl _) (VW _ _ _ _ h2).1) ?_).1
   intro r' a' w' hto hfit
   obtain⟨h3,h4,h5⟩:=Zry hto.good hfit.tmps h2 hO
   have hpost:a'.defers=[]∧∃ v,(results fn a'.tmps).run P w' = .ok v w'∧∃ r'',(Ending.returned v) = .returned (r''.val (Zdv vs))∧To r s w r'' (Zik s s2 (Zdv vs)) w'∧bnd r''.d (Zdv vs)=true :=
    ⟨hfit.defers,_,h3,r',rfl,((To.start (s:=s) hto rfl rfl rfl).trans h5).finish (ZiV _ _ _) (Ztf _ _ _) (ZpZ _ _ _),h4⟩
   rcases hx with rfl|rfl
   ·exact hpost
   ·exact hpost
end
end Go.Proofs.YtagacmljbgkmoaaGreatDoor.Sy
namespace Go.Proofs.YtagacmljbgkmoaaGreatDoor.Sy
open Go.IntKind (u8 u16 u32 u64 i64)
open Go.RowKit
theorem Zcv {i:Nat}:∀ {l:List Nat},ZsS i l=true↔i∈l
 | []=>by simp[ZsS]
 | x::l=>by
  simp only[ZsS,Bool.or_eq_true,Zcv (l:=l),List.mem_cons]
  constructor
  ·rintro(h|h)
   ·exact .inl (eB h).symm
   ·exact .inr h
  ·rintro(rfl|h)
   ·exact .inl (Nat.beq_refl _)
   ·exact .inr h
section
variable {ops:Array Oper} {B:List Nat}
theorem Zke (h:Kf ops.toList B=true) {i:Nat} {o:Oper} (hi:ops[i]? = some o) {k:Nat} (hk:k<ops.size) (hb:(Zt 0 B i).testBit k=true) :
  ∃ j∈Zaa o,j<i∧(j=k∨(Zt 0 B j).testBit k=true):=by
 unfold Kf at h
 have hm:(o,i)∈ops.toList.zipIdx:=by
  rw[List.mem_zipIdx_iff_getElem?]
  rw[Array.getElem?_toList]; exact hi
 have h1:=List.all_eq_true.1 h _ hm
 have h2:=List.all_eq_true.1 h1 k (by rw[List.mem_range,Array.length_toList]; exact hk)
 simp only[hb,Bool.not_true,Bool.false_or] at h2
 obtain⟨j,hj,h3⟩:=List.any_eq_true.1 h2
 simp only[Bool.and_eq_true,Bool.or_eq_true,Nat.blt_eq] at h3
 refine⟨j,hj,h3.1,?_⟩
 rcases h3.2 with h4|h4
 ·exact .inl (eB h4)
 ·exact .inr h4
theorem Zcw (h:Zf6 ops.toList B=true) {i j:Nat} {x y:Oper} (hi:ops[i]? = some x) (hj:ops[j]? = some y) (hne:i≠j) {d:Tmp} (hd:y.dst=some d) :
  x.dst≠some d∧(d∈x.looksAt ops→(Zt 0 B i).testBit j=true∨(Zt 0 B j).testBit i=true):=by
 unfold Zf6 at h
 have hm:∀ {k:Nat} {o:Oper},ops[k]? = some o→(o,k)∈ops.toList.zipIdx:=fun hk=>by
  rw[List.mem_zipIdx_iff_getElem?]
  rw[Array.getElem?_toList]; exact hk
 have h1:=List.all_eq_true.1 (List.all_eq_true.1 h _ (hm hi)) _ (hm hj)
 have hnb:Nat.beq i j=false:=by
  cases hb:Nat.beq i j
  ·rfl
  ·exact absurd (eB hb) hne
 simp only[hnb,hd,Bool.false_or,Bool.and_eq_true,Bool.or_eq_true] at h1
 obtain⟨h2,h3⟩:=h1
 refine⟨fun e => ?_,fun hl => ?_⟩
 ·rw[e] at h2
  simp[Nat.beq_refl] at h2
 ·rcases h3 with(h4|h4)|h4
  ·rw[Bool.not_eq_true'] at h4
   have:=Zcv.2 hl
   rw[show(⟨ops.toList⟩:Array Oper)=ops from rfl] at h4
   rw[h4] at this; cases this
  ·exact .inl h4
  ·exact .inr h4
theorem Ztg (hB:Kf ops.toList B=true) {D:Nat→Prop} (hc:∀ i o,ops[i]? = some o→D i→∀ j∈Zaa o,D j) :
  ∀ (i:Nat) (o:Oper),ops[i]? = some o→(∀ j∈Zaa o,D j)→∀ k,k<ops.size→(Zt 0 B i).testBit k=true→D k:=by
 intro i
 induction i using Nat.strongRecOn with
 | _ i ih =>
  intro o hi he k hk hb
  obtain⟨j,hj,hlt,h⟩:=Zke hB hi hk hb
  rcases h with rfl|h
  ·exact he _ hj
  ·have hjs:j<ops.size:=Nat.lt_trans hlt (Array.getElem?_eq_some_iff.1 hi).1
   exact ih j hlt ops[j] (by simp[hjs]) (hc j _ (by simp[hjs]) (he j hj)) k hk h
end
structure Step where
 i:Nat
 o:Oper
 v:Value
 e:Env
 sin:St
 sout:St
def Step.row (x:Step):Rec:=⟨x.i,x.sin.n,x.sout.n,Zhc x.e x.o⟩
def K9 (H:List Step):List Rec:=H.map Step.row
def ZmE (P:Program) (call:QM) (nt:Nat) (ops:Array Oper) (B:List Nat) (f0:Fr):List Step→Fr→Prop
 | [],f=>f=f0
 | x::H,f=>∃ fp,ZmE P call nt ops B f0 H fp∧x.e=fp.e∧x.sin=ZpN (Zt 0 B x.i) (K9 H) fp.e fp.s x.o∧JV P call ops x.e x.sin x.o=some (x.v,x.sout) ∧
   Zwv nt fp.e x.o.dst x.v=some f.e∧f.s=Zfy (Zt 0 B x.i) (K9 H) fp.s x.o x.sout∧ops[x.i]? = some x.o∧(∀ y∈H,y.i≠x.i)∧(∀ j∈Zaa x.o,∃ y∈H,y.i=j) ∧
   (∀ y∈H,X1 y.o=false→(Zt 0 B x.i).testBit y.i=true)
theorem Zhf {b:Nat} {H:List Step} {g:Nat}:Kg b (K9 H) g=true↔∃ x∈H,b.testBit x.i=false∧x.sin.n≤g∧g<x.sout.n:=by
 unfold Kg K9
 rw[List.any_map,List.any_eq_true]
 constructor
 ·rintro⟨x,hx,h⟩
  simp only[Function.comp,Step.row,Bool.and_eq_true,Bool.not_eq_true',Nat.ble_eq,Nat.blt_eq] at h
  exact⟨x,hx,h.1.1,h.1.2,h.2⟩
 ·rintro⟨x,hx,h1,h2,h3⟩
  refine⟨x,hx,?_⟩
  simp only[Function.comp,Step.row,Bool.and_eq_true,Bool.not_eq_true',Nat.ble_eq,Nat.blt_eq]
  exact⟨⟨h1,h2⟩,h3⟩
theorem Zrz {b:Nat} {H:List Step} {g:Nat}:ZbA b (K9 H) g=true↔∃ x∈H,b.testBit x.i=false∧g∈Zhc x.e x.o:=by
 unfold ZbA K9
 rw[List.any_map,List.any_eq_true]
 constructor
 ·rintro⟨x,hx,h⟩
  simp only[Function.comp,Step.row,Bool.and_eq_true,Bool.not_eq_true',Zcv] at h
  exact⟨x,hx,h.1,h.2⟩
 ·rintro⟨x,hx,h1,h2⟩
  refine⟨x,hx,?_⟩
  simp only[Function.comp,Step.row,Bool.and_eq_true,Bool.not_eq_true',Zcv]
  exact⟨h1,h2⟩
theorem XO (h h':Heap) (g:Nat):look (h++h') g=(look h g).or (look h' g):=by
 induction h with
 | nil=>simp[look]
 | cons x h ih =>
  rw[List.cons_append,Qs,Qs,ih]
  split<;>simp
theorem Zgn (b:Nat) (recs:List Rec) (s:St):∀ (l:List Nat) (g:Nat) (k:Blk),look (ZBe b recs s l) g=some k→g∈l∧Kg b recs g=false∧∃ k',look s.h g=some k'∧k={ k' with rw:=false }
 | [],g,k,h=>by simp[ZBe,look] at h
 | x::l,g,k,h=>by
  simp only[ZBe] at h
  cases hh:Kg b recs x
  ·rw[hh] at h
   simp only[cond_false] at h
   split at h
   ·rename_i k' hk'
    rw[Qs] at h
    split at h
    ·rename_i e
     subst e
     simp only[Option.some.injEq] at h
     exact⟨List.mem_cons_self ..,hh,k',hk',h.symm⟩
    ·obtain⟨h1,h2⟩:=Zgn b recs s l g k h
     exact⟨List.mem_cons_of_mem _ h1,h2⟩
   ·obtain⟨h1,h2⟩:=Zgn b recs s l g k h
    exact⟨List.mem_cons_of_mem _ h1,h2⟩
  ·rw[hh] at h
   simp only[cond_true] at h
   obtain⟨h1,h2⟩:=Zgn b recs s l g k h
   exact⟨List.mem_cons_of_mem _ h1,h2⟩
theorem ZlD (p:Nat→Bool) (h:Heap) (g:Nat) :
  look (h.map fun x=>bif p x.1 then(x.1,{ x.2 with rw:=false }) else x) g=(look h g).map fun k=>bif p g then { k with rw:=false } else k:=by
 induction h with
 | nil=>simp[look]
 | cons x h ih =>
  rw[List.map_cons]
  have:(bif p x.1 then(x.1,{ x.2 with rw:=false }) else x)=(x.1,bif p x.1 then { x.2 with rw:=false } else x.2):=by cases p x.1<;>rfl
  rw[this,Qs,Qs,ih]
  split
  ·rename_i e; simp at e; subst e; rfl
  ·rfl
end Go.Proofs.YtagacmljbgkmoaaGreatDoor.Sy
namespace Go.Proofs.YtagacmljbgkmoaaGreatDoor.Sy
open Go.IntKind (u8 u16 u32 u64 i64)
open Go.RowKit
section
variable {b:Nat} {recs:List Rec} {e:Env} {s s':St} {o:Oper} {g:Nat} {k:Blk}
theorem ZcZ (b:Nat) (recs:List Rec) (e:Env) (s:St) (o:Oper):(ZpN b recs e s o).n=s.n:=by unfold ZpN; cases X1 o<;>rfl
theorem ZAg (b:Nat) (recs:List Rec) (e:Env) (s:St) (o:Oper):(ZpN b recs e s o).O=s.O:=by unfold ZpN; cases X1 o<;>rfl
theorem ZbG (h:look (ZpN b recs e s o).h g=some k) :
  Kg b recs g=false∧(X1 o=true→g∈Zhc e o∧k.rw=false)∧∃ k',look s.h g=some k'∧k.op=k'.op∧k.cells=k'.cells∧k.it=k'.it∧(k.rw=true→k'.rw=true∧ZbA b recs g=false):=by
 unfold ZpN at h
 cases hf:X1 o
 ·rw[hf] at h
  simp only[cond_false] at h
  rw[ZlD,YJ (fun x => !Kg b recs x)] at h
  obtain⟨k',hk',rfl⟩:=oM h
  split at hk'
  ·rename_i hh
   refine⟨by simpa using hh,(fun hc=>by cases hc),k',hk',?_⟩
   cases ZbA b recs g<;>simp
  ·cases hk'
 ·rw[hf] at h
  simp only[cond_true] at h
  obtain⟨h1,h2,k',h3,rfl⟩:=Zgn _ _ _ _ _ _ h
  exact⟨h2,fun _=>⟨h1,rfl⟩,k',h3,rfl,rfl,rfl,(fun hc=>by cases hc)⟩
theorem ZlE {x:Nat×Nat} (h:x∈(ZpN b recs e s o).lo):x∈s.lo∧Kg b recs x.1=false:=by
 unfold ZpN at h
 cases hf:X1 o<;>rw[hf] at h<;>simp only[cond_false,cond_true,List.mem_filter,Bool.not_eq_true'] at h<;>exact h
theorem Zth (h:WFn s):WFn (ZpN b recs e s o) :=
 ⟨fun g k hk=>by obtain⟨_,_,k',h1,_⟩:=ZbG hk; rw[ZcZ]; exact h.1 g k' h1,fun x hx=>by rw[ZcZ]; exact h.2 x (ZlE hx).1⟩
theorem Zhg (b:Nat) (recs:List Rec) (s:St) (o:Oper) (s':St):(Zfy b recs s o s').n=s'.n:=by unfold Zfy; cases X1 o<;>rfl
theorem ZoK (b:Nat) (recs:List Rec) (s:St) (o:Oper) (s':St):(Zfy b recs s o s').O=s'.O:=by unfold Zfy; cases X1 o<;>rfl
theorem Zm1 (hw:WFn s) (hg:s.n≤g):look s.h g=none:=by
 cases hl:look s.h g with
 | none=>rfl
 | some k=>have:=hw.1 g k hl; omega
theorem ZiW (hw:WFn s) (hg:s.n≤g):look (Zfy b recs s o s').h g=look s'.h g:=by
 have hble:Nat.ble s.n g=true:=Nat.ble_eq_true_of_le hg
 unfold Zfy
 cases hf:X1 o
 ·simp only[cond_false]
  rw[XO,YJ (fun x=>Nat.ble s.n x || !(Kg b recs x||ZbA b recs x)),YJ (fun x=>Kg b recs x||ZbA b recs x),Zm1 hw hg]
  simp[hble]
 ·simp only[cond_true]
  rw[XO,YJ (fun x=>Nat.ble s.n x),Zm1 hw hg]
  simp[hble]
theorem ZdB (hg:g<s.n):look (Zfy b recs s o s').h g=if X1 o=true∨Kg b recs g=true∨ZbA b recs g=true then look s.h g else look s'.h g:=by
 have hble:Nat.ble s.n g=false:=by
  cases h:Nat.ble s.n g
  ·rfl
  ·have:=Nat.le_of_ble_eq_true h; omega
 unfold Zfy
 cases hf:X1 o
 ·simp only[cond_false]
  rw[XO,YJ (fun x=>Nat.ble s.n x || !(Kg b recs x||ZbA b recs x)),YJ (fun x=>Kg b recs x||ZbA b recs x)]
  cases h1:Kg b recs g<;>cases h2:ZbA b recs g<;>simp[hble]
 ·simp only[cond_true]
  rw[XO,YJ (fun x=>Nat.ble s.n x)]
  simp[hble]
theorem Zcx {x:Nat×Nat}:x∈(Zfy b recs s o s').lo↔(x∈s'.lo∧s.n≤x.1)∨x∈s.lo:=by
 unfold Zfy
 cases X1 o<;>simp only[cond_false,cond_true,List.mem_append,List.mem_filter,Nat.ble_eq]
theorem Zp1 (hw:WFn s) (hw':WFn s') (hn:s.n≤s'.n):WFn (Zfy b recs s o s'):=by
 refine⟨fun g k hk => ?_,fun x hx => ?_⟩
 ·rw[Zhg]
  rcases Nat.lt_or_ge g s.n with hg|hg
  ·omega
  ·rw[ZiW hw hg] at hk; exact hw'.1 g k hk
 ·rw[Zhg]
  rcases Zcx.1 hx with h|h
  ·exact hw'.2 x h.1
  ·have:=hw.2 x h; omega
end
section
variable {P:Program} {call:QM} {nt:Nat} {ops:Array Oper} {B:List Nat} {f0:Fr}
abbrev Zcy (call:QM):Prop:=∀ f args s v s',call f args s=some (v,s')→WX s s'
theorem ZbH (hc:Zcy call) (hw:WFn f0.s):∀ (H:List Step) (f:Fr),ZmE P call nt ops B f0 H f→WFn f.s∧f0.s.n≤f.s.n∧(f.s.O→f0.s.O) ∧
  ∀ x∈H,f0.s.n≤x.sin.n∧x.sin.n≤x.sout.n∧x.sout.n≤f.s.n∧(f.s.O→x.sout.O)∧WFn x.sin∧WFn x.sout
 | [],f,h=>by
  simp only[ZmE] at h
  subst h
  exact⟨hw,Nat.le_refl _,id,fun x hx=>by cases hx⟩
 | x::H,f,h=>by
  obtain⟨fp,h1,h2,h3,h4,h5,h6,_⟩:=h
  obtain⟨w1,w2,w3,w4⟩:=ZbH hc hw H fp h1
  have hm:=ZaS hc h4
  have win:WFn x.sin:=by rw[h3]; exact Zth w1
  have hn:x.sin.n=fp.s.n:=by rw[h3,ZcZ]
  have hfn:f.s.n=x.sout.n:=by rw[h6,Zhg]
  have hfO:f.s.O=x.sout.O:=by rw[h6,ZoK]
  have hO:f.s.O→fp.s.O:=fun hO=>by
   have:=hm.2.1 (hfO▸hO)
   rw[h3,ZAg] at this
   exact this
  refine⟨by rw[h6]; exact Zp1 w1 (hm.2.2 win) (by rw[← hn]; exact hm.1),by have:=hm.1; omega,fun hO'=>w3 (hO hO'),fun y hy => ?_⟩
  rcases List.mem_cons.1 hy with rfl|hy
  ·exact⟨by omega,hm.1,by omega,fun hO'=>hfO▸hO',win,hm.2.2 win⟩
  ·obtain⟨q1,q2,q3,q4,q5⟩:=w4 y hy
   exact⟨q1,q2,by have:=hm.1; omega,fun hO'=>q4 (hO hO'),q5⟩
theorem Ziw:∀ (H:List Step) (f:Fr),ZmE P call nt ops B f0 H f→∀ t:Tmp,KL f.e t=match H.find? (fun x=>x.o.dst==some t) with|some x=>x.v|none=>KL f0.e t
 | [],f,h,t=>by simp only[ZmE] at h; subst h; rfl
 | x::H,f,h,t=>by
  obtain⟨fp,h1,h2,h3,h4,h5,h6,_⟩:=h
  have ih:=Ziw H fp h1 t
  rw[List.find?_cons]
  unfold Zwv at h5
  cases hd:x.o.dst with
  | none =>
   rw[hd] at h5
   simp only[Option.some.injEq] at h5
   rw[← h5,ih]
   rfl
  | some d =>
   rw[hd] at h5
   obtain⟨_,h5⟩:=Qy h5
   simp only[Option.some.injEq] at h5
   rw[← h5,Zgc]
   by_cases ht:t=d
   ·subst ht
    simp
   ·have:((some d:Option Tmp)==some t)=false:=by
     rw[beq_eq_false_iff_ne]; intro e; cases e; exact ht rfl
    rw[if_neg ht,ih,this]
theorem ZbI:∀ (H1:List Step) (H2:List Step) (f:Fr),ZmE P call nt ops B f0 (H1++H2) f→∃ f2,ZmE P call nt ops B f0 H2 f2
 | [],H2,f,h=>⟨f,h⟩
 | x::H1,H2,f,h=>by
  obtain⟨fp,h1,_⟩:=h
  exact ZbI H1 H2 fp h1
theorem WH:∀ (H:List Step) (f:Fr),ZmE P call nt ops B f0 H f→∀ x∈H,ops[x.i]? = some x.o∧(∀ j∈Zaa x.o,∃ y∈H,y.i=j)
 | [],_,_,x,hx=>nomatch hx
 | y::H,f,h,x,hx=>by
  obtain⟨fp,h1,_,_,_,_,_,h7,_,h8,_⟩:=h
  rcases List.mem_cons.1 hx with rfl|hx
  ·refine⟨h7,fun j hj => ?_⟩
   obtain⟨z,hz,e⟩:=h8 j hj
   exact⟨z,List.mem_cons_of_mem _ hz,e⟩
  ·obtain⟨q1,q2⟩:=WH H fp h1 x hx
   refine⟨q1,fun j hj => ?_⟩
   obtain⟨z,hz,e⟩:=q2 j hj
   exact⟨z,List.mem_cons_of_mem _ hz,e⟩
theorem ZdC:∀ (H1:List Step) (x:Step) (H2:List Step) (f:Fr),ZmE P call nt ops B f0 (H1++x::H2) f→(∀ y∈H1,y.i≠x.i)∧∀ y∈H2,y.i≠x.i
 | [],x,H2,f,h=>by
  obtain⟨fp,h1,_,_,_,_,_,h7,h8,_⟩:=h
  exact⟨fun y hy=>(by cases hy),h8⟩
 | z::H1,x,H2,f,h=>by
  obtain⟨fp,h1,_,_,_,_,_,h7,h8,_⟩:=h
  obtain⟨q1,q2⟩:=ZdC H1 x H2 fp h1
  refine⟨fun y hy => ?_,q2⟩
  rcases List.mem_cons.1 hy with rfl|hy
  ·exact fun e=>h8 x (by simp) e.symm
  ·exact q1 y hy
theorem ZiX (hB:Kf ops.toList B=true) {H1:List Step} {x:Step} {H2:List Step} {f:Fr} (h:ZmE P call nt ops B f0 (H1++x::H2) f) {k:Nat} (hk:k<ops.size)
  (hb:(Zt 0 B x.i).testBit k=true):∃ y∈H2,y.i=k:=by
 obtain⟨fx,hx⟩:=ZbI H1 (x::H2) f h
 obtain⟨fp,h1,_,_,_,_,_,h7,_,h8,_⟩:=hx
 refine Ztg hB (D:=fun i=>∃ y∈H2,y.i=i) ?_ x.i x.o h7 h8 k hk hb
 rintro i o hi ⟨y,hy,rfl⟩ j hj
 obtain⟨q1,q2⟩:=WH H2 fp h1 y hy
 rw[q1] at hi
 cases hi
 exact q2 j hj
theorem ZiY (hc:Zcy call) (hw:WFn f0.s) {x:Step} (hx:X1 x.o=true):∀ (H1 H2:List Step) (f:Fr),ZmE P call nt ops B f0 (H1++x::H2) f →
  (∀ c∈H1,X1 c.o=false→(Zt 0 B c.i).testBit x.i=false) →
  (∀ g k,look x.sin.h g=some k→∃ k',look f.s.h g=some k'∧k.op=k'.op∧k.cells=k'.cells∧k.it=k'.it)∧(∀ g,x.sin.n≤g→g<x.sout.n→look f.s.h g=look x.sout.h g) ∧
  (∀ y∈x.sin.lo,y∈f.s.lo)∧(∀ y∈f.s.lo,x.sin.n≤y.1→y.1<x.sout.n→y∈x.sout.lo)
 | [],H2,f,h,_=>by
  obtain⟨fp,h1,h2,h3,h4,h5,h6,_⟩:=h
  obtain⟨w1,_⟩:=ZbH hc hw H2 fp h1
  have hn:x.sin.n=fp.s.n:=by rw[h3,ZcZ]
  refine⟨fun g k hk => ?_,fun g g1 g2 => ?_,fun y hy => ?_,fun y hy g1 g2 => ?_⟩
  ·rw[h3] at hk
   obtain⟨_,_,k',q1,q2,q3,q4,_⟩:=ZbG hk
   refine⟨k',?_,q2,q3,q4⟩
   rw[h6,ZdB (w1.1 g k' q1),if_pos (.inl hx)]
   exact q1
  ·rw[h6,ZiW w1 (by omega)]
  ·rw[h3] at hy
   rw[h6]
   exact Zcx.2 (.inr (ZlE hy).1)
  ·rw[h6] at hy
   rcases Zcx.1 hy with q|q
   ·exact q.1
   ·have:=w1.2 y q; omega
 | c::H1,H2,f,h,hb=>by
  obtain⟨fp,h1,h2,h3,h4,h5,h6,_⟩:=h
  obtain⟨w1,_,_,w4⟩:=ZbH hc hw _ fp h1
  obtain⟨i1,i2,i3,i4⟩:=ZiY hc hw hx H1 H2 fp h1 fun d hd=>hb d (List.mem_cons_of_mem _ hd)
  obtain⟨_,x2,x3,_⟩:=w4 x (by simp)
  have hxm:x∈H1++x::H2:=by simp
  refine⟨fun g k hk => ?_,fun g g1 g2 => ?_,fun y hy => ?_,fun y hy g1 g2 => ?_⟩
  ·obtain⟨k',q1,q2,q3⟩:=i1 g k hk
   refine⟨k',?_,q2,q3⟩
   rw[h6,ZdB (w1.1 g k' q1),if_pos ?_]
   ·exact q1
   ·cases hf:X1 c.o
    ·have hbc:=hb c (List.mem_cons_self ..) hf
     refine .inr (.inr (Zrz.2 ⟨x,hxm,hbc,?_⟩))
     obtain⟨fx,hfx⟩:=ZbI H1 (x::H2) fp h1
     obtain⟨fp2,_,e2,e3,_⟩:=hfx
     rw[e3] at hk
     obtain⟨_,q4,_⟩:=ZbG hk
     rw[e2]
     exact(q4 hx).1
    ·exact .inl rfl
  ·rw[h6,ZdB (by omega),if_pos ?_]
   ·exact i2 g g1 g2
   ·cases hf:X1 c.o
    ·have hbc:=hb c (List.mem_cons_self ..) hf
     exact .inr (.inl (Zhf.2 ⟨x,hxm,hbc,g1,g2⟩))
    ·exact .inl rfl
  ·rw[h6]
   exact Zcx.2 (.inr (i3 y hy))
  ·rw[h6] at hy
   rcases Zcx.1 hy with q|q
   ·omega
   ·exact i4 y q g1 g2
theorem ZrA (hc:Zcy call) (hw:WFn f0.s) {H:List Step} {f:Fr} (h:ZmE P call nt ops B f0 H f) {x y:Step} (hx:x∈H) (hy:y∈H) (hne:x.i≠y.i):x.sout.n≤y.sin.n∨y.sout.n≤x.sin.n:=by
 induction H generalizing f with
 | nil=>cases hx
 | cons z H ih =>
  obtain⟨fp,h1,h2,h3,h4,h5,h6,_⟩:=h
  obtain⟨_,_,_,w4⟩:=ZbH hc hw H fp h1
  have hn:z.sin.n=fp.s.n:=by rw[h3,ZcZ]
  rcases List.mem_cons.1 hx with ex|hx'<;>rcases List.mem_cons.1 hy with ey|hy'
  ·exact absurd (by rw[ex,ey]) hne
  ·right; have:=(w4 y hy').2.2.1; rw[ex]; omega
  ·left; have:=(w4 x hx').2.2.1; rw[ey]; omega
  ·exact ih h1 hx' hy'
theorem ZlF (hT:Zf6 ops.toList B=true) {H:List Step} {f:Fr} (h:ZmE P call nt ops B f0 H f) {x y:Step} (hx:x∈H) (hy:y∈H) {d:Tmp} (dx:x.o.dst=some d) (dy:y.o.dst=some d):x.i=y.i:=by
 by_cases e:x.i=y.i
 ·exact e
 ·exact absurd dx (Zcw hT (WH H f h x hx).1 (WH H f h y hy).1 e dy).1
end
theorem ZlG {r0 r r':Ren} {s0 sA sin sout sZ:St} {w0 w w':World} (A:To r0 s0 w0 r sA w) (T:To r sin w r' sout w')
  (hin:∀ g k,look sin.h g=some k→∃ k',look sA.h g=some k'∧(k.rw=true→k'.rw=true))
  (hz:∀ g k,look sZ.h g=some k→look sout.h g=some k∨(look sA.h g=some k∧∀ k',look sin.h g=some k'→k'.rw=false))
  (hl:∀ x∈sZ.lo,x∈sout.lo∨x∈sA.lo) (h1:s0.n≤sin.n) (h2:sout.n≤sZ.n) (h3:sA.n≤sZ.n):To r0 s0 w0 r' sZ w':=by
 have hA:=A.good
 have far:∀ g k,look sA.h g=some k→(∀ k',look sin.h g=some k'→k'.rw=false)→w'.heap[r.b g]? = w.heap[r.b g]?:=fun g k hk hn =>
  T.frame (r.b g) (hA.is g k hk).lt fun g1 k1 hk1 hrw e=>by
   obtain⟨k2,q1,q2⟩:=hin g1 k1 hk1
   have:=hA.inj g1 g k2 k q1 hk (q2 hrw) e
   subst this
   rw[hn k1 hk1] at hrw
   cases hrw
 refine⟨A.ext.trans T.ext,fun g hg => ?_,by have:=T.le; omega,A.good0,⟨fun g k hk => ?_,fun g g' k k' h5 h6 h8 h7 => ?_,fun g k hk => ?_,fun x hx => ?_⟩,T.os.trans A.os,T.tape.trans A.tape,T.output.trans A.output,Nat.le_trans A.size T.size,fun b hb hn => ?_,fun g k hk => ?_⟩
 ·rcases T.dom g hg with q|q
  ·rcases A.dom g q with q|q
   ·exact .inl q
   ·exact .inr ⟨q.1,by omega⟩
  ·exact .inr ⟨by omega,by omega⟩
 ·rcases hz g k hk with q|⟨q,hn⟩
  ·exact T.good.is g k q
  ·exact(hA.is g k q).ext T.ext (hA.lt g k q).1 (hA.lt g k q).2 (far g k q hn)
 ·have mixed:∀ g g' k k',look sout.h g=some k→look sA.h g'=some k'→(∀ k'',look sin.h g'=some k''→k''.rw=false)→(k.rw=true∨k'.rw=true)→r'.b g=r'.b g'→g=g':=by
   intro g g' k k' q q' hn' hor h7
   rw[T.ext.b g' (hA.lt g' k' q').1] at h7
   rcases T.own g k q with⟨k0,q1,q1'⟩|q1|⟨g0,k0,q1,q2,q3⟩
   ·obtain⟨k2,q3,q3'⟩:=hin g k0 q1
    rw[T.ext.b g (hA.lt g k2 q3).1] at h7
    rcases hor with h|h
    ·exact hA.inj g g' k2 k' q3 q' (q3' (q1' h)) h7
    ·exact hA.inj' q3 q' h h7
   ·have:=(hA.is g' k' q').lt; omega
   ·obtain⟨k2,q4,q4'⟩:=hin g0 k0 q1
    have:=hA.inj g0 g' k2 k' q4 q' (q4' q2) (q3.trans h7)
    subst this
    rw[hn' k0 q1] at q2
    cases q2
  rcases hz g k h5 with q|⟨q,hn⟩<;>rcases hz g' k' h6 with q'|⟨q',hn'⟩
  ·exact T.good.inj g g' k k' q q' h8 h7
  ·exact mixed g g' k k' q q' hn' (.inl h8) h7
  ·exact(mixed g' g k' k q' q hn (.inr h8) h7.symm).symm
  ·rw[T.ext.b g (hA.lt g k q).1,T.ext.b g' (hA.lt g' k' q').1] at h7
   exact hA.inj g g' k k' q q' h8 h7
 ·rcases hz g k hk with q|⟨q,_⟩
  ·exact T.good.lt g k q
  ·exact⟨T.ext.d g (hA.lt g k q).1,(hA.lt g k q).2.mono T.ext.d⟩
 ·rcases hl x hx with q|q
  ·exact T.good.lo x q
  ·have:=hA.lo x q
   rw[T.ext.c x.1 this.2]
   exact⟨this.1,T.ext.d _ this.2⟩
 ·refine(T.frame b (Nat.lt_of_lt_of_le hb A.size) fun g k hk hrw e => ?_).trans (A.frame b hb hn)
  obtain⟨k',q1,q2⟩:=hin g k hk
  rcases A.own g k' q1 with⟨k0,q3,q4⟩|q3|⟨g0,k0,q3,q4,q5⟩
  ·exact hn g k0 q3 (q4 (q2 hrw)) ((A.ext.b g (A.good0.lt g k0 q3).1).symm.trans e)
  ·omega
  ·exact hn g0 k0 q3 q4 (q5.trans e)
 ·have fromA:∀ k',look sA.h g=some k'→(k.rw=true→k'.rw=true)→(∃ k0,look s0.h g=some k0∧(k.rw=true→k0.rw=true))∨w0.heap.size≤r'.b g∨∃ g0 k0,look s0.h g0=some k0∧k0.rw=true∧r0.b g0=r'.b g:=by
   intro k' q1 q2
   have he:=T.ext.b g (hA.lt g k' q1).1
   rcases A.own g k' q1 with⟨k0,q3,q4⟩|q3|⟨g0,k0,q3,q4,q5⟩
   ·exact .inl ⟨k0,q3,fun h=>q4 (q2 h)⟩
   ·exact .inr (.inl (by omega))
   ·exact .inr (.inr ⟨g0,k0,q3,q4,q5.trans he.symm⟩)
  rcases hz g k hk with q|⟨q,_⟩
  ·rcases T.own g k q with⟨k0,q1,q2⟩|q1|⟨g0,k0,q1,q2,q3⟩
   ·obtain⟨k2,q3,q4⟩:=hin g k0 q1
    exact fromA k2 q3 fun h=>q4 (q2 h)
   ·have:=A.size; exact .inr (.inl (by omega))
   ·obtain⟨k2,q4,q5⟩:=hin g0 k0 q1
    rcases A.own g0 k2 q4 with⟨k1,q6,q7⟩|q6|⟨g1,k1,q6,q7,q8⟩
    ·exact .inr (.inr ⟨g0,k1,q6,q7 (q5 q2),(A.ext.b g0 (A.good0.lt g0 k1 q6).1).symm.trans q3⟩)
    ·exact .inr (.inl (by omega))
    ·exact .inr (.inr ⟨g1,k1,q6,q7,q8.trans q3⟩)
  ·exact fromA k q id
end Go.Proofs.YtagacmljbgkmoaaGreatDoor.Sy
namespace Go.Proofs.YtagacmljbgkmoaaGreatDoor.Sy
open Go.IntKind (u8 u16 u32 u64 i64)
open Go.RowKit
def done (listed:Array Bool) (i:Nat):Bool:=listed.getD i false
def Xa (listed:Array Bool) (H:List Step) (g:Nat):Bool:=H.any fun x => !done listed x.i&&Nat.ble x.sin.n g&&Nat.blt g x.sout.n
theorem W7 {listed:Array Bool} {H:List Step} {g:Nat}:Xa listed H g=true↔∃ x∈H,done listed x.i=false∧x.sin.n≤g∧g<x.sout.n:=by
 unfold Xa
 rw[List.any_eq_true]
 constructor
 ·rintro⟨x,hx,h⟩
  simp only[Bool.and_eq_true,Bool.not_eq_true',Nat.ble_eq,Nat.blt_eq] at h
  exact⟨x,hx,h.1.1,h.1.2,h.2⟩
 ·rintro⟨x,hx,h1,h2,h3⟩
  refine⟨x,hx,?_⟩
  simp only[Bool.and_eq_true,Bool.not_eq_true',Nat.ble_eq,Nat.blt_eq]
  exact⟨⟨h1,h2⟩,h3⟩
def cut (listed:Array Bool) (H:List Step) (s:St):St:={ s with h:=s.h.filter fun y => !Xa listed H y.1,lo:=s.lo.filter fun y => !Xa listed H y.1 }
theorem JX {listed:Array Bool} {H:List Step} {s:St} {g:Nat} {k:Blk}:look (cut listed H s).h g=some k↔Xa listed H g=false∧look s.h g=some k:=by
 unfold cut
 simp only[]
 rw[YJ (fun x => !Xa listed H x)]
 cases Xa listed H g<;>simp
theorem Zhw {listed:Array Bool} {H:List Step} {s:St} {y:Nat×Nat}:y∈(cut listed H s).lo↔y∈s.lo∧Xa listed H y.1=false:=by
 unfold cut
 simp[List.mem_filter]
def ZmF (listed:Array Bool) (H:List Step) (e0:Env) (t:Tmp):Value :=
 match H.find? (fun x=>x.o.dst==some t) with
 | some x=>bif done listed x.i then x.v else KL e0 t
 | none=>KL e0 t
structure Cond (P:Program) (call:QM) (nt:Nat) (ops:Array Oper) (B:List Nat) (f0 f':Fr) (r0:Ren) (w0:World) (l:List Nat) (H:List Step) (f:Fr) (listed:Array Bool) (r:Ren) (a:Act) (w:World):Prop where
 hist:ZmE P call nt ops B f0 H f
 seq:Zka P call nt ops B l (K9 H) f=some f'
 ord:Zct ops.toList B l (H.map (·.i))=true
 cover:∀ i,i<ops.size→i∈l∨∃ x∈H,x.i=i
 size:listed.size=ops.size
 unl:∀ i∈l,done listed i=false
 chain:∀ x∈H,X1 x.o=false→done listed x.i=true
 after:∀ x∈H,X1 x.o=false→∀ j∈l,(Zt 0 B j).testBit x.i=true
 closed:∀ i o,ops[i]? = some o→done listed i=true→∀ j∈Zaa o,done listed j=true
 tqq:To r0 f0.s w0 r (cut listed H f.s) w
 sz:a.tmps.size=nt
 def_:a.defers=[]
 env:∀ t:Tmp,Tv r (ZmF listed H f0.e t) (a.tmps.getD t undef)
 fr:WL r f.s.n f'.s.n
 frm:∀ x∈H,done listed x.i=false→WL r x.sin.n x.sout.n
section
variable {P:Program} {call:QM} {nt:Nat} {ops:Array Oper} {B:List Nat} {f0 f':Fr} {r0:Ren} {w0:World}
theorem Zcz {i:Nat} {l:List Nat} {dn:List Nat} (h:Zct ops.toList B (i::l) dn=true) :
  ∃ o,ops[i]? = some o∧i∉dn∧(∀ j∈Zaa o,j∈dn)∧(X1 o=true∨∀ j∈l,(Zt 0 B j).testBit i=true)∧Zct ops.toList B l (i::dn)=true:=by
 simp only[Zct] at h
 split at h
 ·cases h
 ·rename_i o ho
  rw[Array.getElem?_toList] at ho
  simp only[Bool.and_eq_true,Bool.or_eq_true,Bool.not_eq_true',List.all_eq_true,Zcv] at h
  obtain⟨⟨⟨h1,h2⟩,h3⟩,h4⟩:=h
  refine⟨o,ho,fun hc => ?_,h2,h3,h4⟩
  rw[Zcv.2 hc] at h1; cases h1
theorem ZcA {H:List Step} {t:Tmp} {y:Step} (h:H.find? (fun x=>x.o.dst==some t)=some y):y∈H∧y.o.dst=some t :=
 ⟨List.mem_of_find?_eq_some h,by have:=List.find?_some h; simpa using this⟩
theorem Zm2 {H:List Step} {t:Tmp} (h:H.find? (fun x=>x.o.dst==some t)=none):∀ x∈H,x.o.dst≠some t:=by
 intro x hx e
 have:=List.find?_eq_none.1 h x hx
 simp[e] at this
theorem Zp2 {i:Nat} {l:List Nat} {H:List Step} {f:Fr} {o:Oper} (ho:ops[i]? = some o) (h:Zka P call nt ops B (i::l) (K9 H) f=some f') :
  ∃ x:Step,∃ f1:Fr,x.i=i∧x.o=o∧x.e=f.e∧x.sin=ZpN (Zt 0 B i) (K9 H) f.e f.s o∧JV P call ops x.e x.sin x.o=some (x.v,x.sout)∧Zwv nt f.e o.dst x.v=some f1.e ∧
   f1.s=Zfy (Zt 0 B i) (K9 H) f.s o x.sout∧Zka P call nt ops B l (K9 (x::H)) f1=some f':=by
 simp only[Zka] at h
 rw[Array.getElem?_toList,ho] at h
 simp only[] at h
 replace h:=oB h
 obtain⟨⟨v,s1⟩,h1,h⟩:=h
 replace h:=oB h
 obtain⟨e1,h2,h⟩:=h
 refine⟨⟨i,o,v,f.e,ZpN (Zt 0 B i) (K9 H) f.e f.s o,s1⟩,⟨e1,Zfy (Zt 0 B i) (K9 H) f.s o s1⟩,rfl,rfl,rfl,rfl,h1,h2,rfl,?_⟩
 have:K9 (⟨i,o,v,f.e,ZpN (Zt 0 B i) (K9 H) f.e f.s o,s1⟩::H)=⟨i,f.s.n,s1.n,Zhc f.e o⟩::K9 H:=by
  simp[K9,Step.row,ZcZ]
 rw[this]
 exact h
theorem Zgo (hc:Zcy call):∀ (l:List Nat) (recs:List Rec) (f f1:Fr),Zka P call nt ops B l recs f=some f1→WX f.s f1.s
 | [],recs,f,f1,h=>by simp only[Zka,Option.some.injEq] at h; subst h; exact .refl _
 | i::l,recs,f,f1,h=>by
  simp only[Zka] at h
  split at h
  ·cases h
  ·rename_i o ho
   replace h:=oB h
   obtain⟨⟨v,s1⟩,h1,h⟩:=h
   replace h:=oB h
   obtain⟨e1,h2,h⟩:=h
   have hm:=ZaS hc h1
   have hn1:f.s.n≤s1.n:=by have:=hm.1; rw[ZcZ] at this; exact this
   obtain⟨q1,q2,q3⟩:=Zgo hc l _ _ f1 h
   have q1:s1.n≤f1.s.n:=by rw[Zhg] at q1; exact q1
   refine⟨by omega,fun hO => ?_,fun hw=>q3 (Zp1 hw (hm.2.2 (Zth hw)) hn1)⟩
   have:=q2 hO
   rw[ZoK] at this
   have:=hm.2.1 this
   rw[ZAg] at this
   exact this
theorem ZwG (hT:Zf6 ops.toList B=true) (hc:Zcy call) (hw:WFn f0.s) {i:Nat} {l:List Nat} {H:List Step} {f:Fr} {listed:Array Bool} {r:Ren} {a:Act} {w:World} {o:Oper} (C:Cond P call nt ops B f0 f' r0 w0 (i::l) H f listed r a w)
  (ho:ops[i]? = some o) (hfree:X1 o=true):∃ H1 f1,Cond P call nt ops B f0 f' r0 w0 l H1 f1 listed r a w:=by
 obtain⟨o',ho',hni,hed,_,hord⟩:=Zcz C.ord
 rw[ho] at ho'
 cases ho'
 obtain⟨x,f1,rfl,rfl,e1,e2,e3,e4,e5,e6⟩:=Zp2 ho C.seq
 have hist1:ZmE P call nt ops B f0 (x::H) f1:=by
  refine⟨f,C.hist,e1,e2,e3,e4,e5,ho,fun y hy e=>hni (by rw[← e]; exact List.mem_map_of_mem hy),fun j hj => ?_,fun y hy hf=>C.after y hy hf _ (List.mem_cons_self ..)⟩
  obtain⟨y,hy,e⟩:=List.mem_map.1 (hed j hj)
  exact⟨y,hy,e⟩
 obtain⟨w1,n1,_,hin⟩:=ZbH hc hw H f C.hist
 obtain⟨w1',_,_,hin'⟩:=ZbH hc hw (x::H) f1 hist1
 have hxn:x.sin.n=f.s.n:=by rw[e2,ZcZ]
 have hfn:f1.s.n=x.sout.n:=by rw[e5,Zhg]
 have hle:=(hin' x (List.mem_cons_self ..)).2.1
 have hms:=Zgo hc l _ _ _ e6
 have hun:done listed x.i=false:=C.unl _ (List.mem_cons_self ..)
 have hmiss:∀ g,Xa listed (x::H) g=true↔Xa listed H g=true∨(x.sin.n≤g∧g<x.sout.n):=by
  intro g
  rw[W7,W7]
  constructor
  ·rintro⟨y,hy,q⟩
   rcases List.mem_cons.1 hy with rfl|hy
   ·exact .inr q.2
   ·exact .inl ⟨y,hy,q⟩
  ·rintro(⟨y,hy,q⟩|q)
   ·exact⟨y,List.mem_cons_of_mem _ hy,q⟩
   ·exact⟨x,List.mem_cons_self ..,hun,q⟩
 have hmf:∀ g,Xa listed (x::H) g=false↔Xa listed H g=false∧¬ (x.sin.n≤g∧g<x.sout.n):=by
  intro g
  have:=hmiss g
  cases h1:Xa listed (x::H) g<;>cases h2:Xa listed H g<;>simp[h1,h2] at this ⊢
  ·omega
  ·exact this
 have hlk:∀ g k,look (cut listed (x::H) f1.s).h g=some k↔look (cut listed H f.s).h g=some k:=by
  intro g k
  rw[JX,JX,hmf]
  rcases Nat.lt_or_ge g f.s.n with hg|hg
  ·rw[e5,ZdB hg,if_pos (.inl hfree)]
   constructor
   ·rintro⟨⟨q,_⟩,q2⟩; exact⟨q,q2⟩
   ·rintro⟨q,q2⟩; exact⟨⟨q,by omega⟩,q2⟩
  ·constructor
   ·rintro⟨⟨_,q⟩,q2⟩
    have:=w1'.1 g k q2
    omega
   ·rintro⟨_,q2⟩
    have:=w1.1 g k q2
    omega
 have hlo:∀ y,y∈(cut listed (x::H) f1.s).lo→y∈(cut listed H f.s).lo:=by
  intro y hy
  rw[Zhw,hmf] at hy
  rw[Zhw]
  obtain⟨q1,q2,q3⟩:=hy
  refine⟨?_,q2⟩
  have:=w1'.2 y q1
  rw[e5] at q1
  rcases Zcx.1 q1 with q|q
  ·omega
  ·exact q
 refine⟨x::H,f1,hist1,e6,hord,fun j hj => ?_,C.size,fun j hj=>C.unl j (List.mem_cons_of_mem _ hj),fun y hy hf => ?_,fun y hy hf j hj => ?_,C.closed,?_,C.sz,C.def_,fun t => ?_,C.fr.sub (by omega) (Nat.le_refl _),fun y hy hd => ?_⟩
 ·rcases C.cover j hj with h|⟨y,hy,e⟩
  ·rcases List.mem_cons.1 h with rfl|h
   ·exact .inr ⟨x,List.mem_cons_self ..,rfl⟩
   ·exact .inl h
  ·exact .inr ⟨y,List.mem_cons_of_mem _ hy,e⟩
 ·rcases List.mem_cons.1 hy with rfl|hy
  ·rw[hfree] at hf; cases hf
  ·exact C.chain y hy hf
 ·rcases List.mem_cons.1 hy with rfl|hy
  ·rw[hfree] at hf; cases hf
  ·exact C.after y hy hf j (List.mem_cons_of_mem _ hj)
 ·have T:=C.to
  have hcn:(cut listed (x::H) f1.s).n=f1.s.n:=rfl
  have hcn':(cut listed H f.s).n=f.s.n:=rfl
  refine⟨T.ext,fun g hg => ?_,by rw[hcn]; omega,T.good0,T.good.sub (fun g k hk=>⟨k,(hlk g k).1 hk,rfl,rfl,rfl,id⟩) hlo,T.os,T.tape,T.output,T.size,T.frame,fun g k hk=>T.own g k ((hlk g k).1 hk)⟩
  rcases T.dom g hg with q|q
  ·exact .inl q
  ·rw[hcn'] at q; rw[hcn]; exact .inr ⟨q.1,by omega⟩
 ·have he:ZmF listed (x::H) f0.e t=ZmF listed H f0.e t:=by
   unfold ZmF
   rw[List.find?_cons]
   cases hb:(x.o.dst==some t)
   ·rfl
   ·simp only[hun,cond_false]
    cases hfd:H.find? (fun x=>x.o.dst==some t) with
    | none=>rfl
    | some y =>
     obtain⟨hy,hyd⟩:=ZcA hfd
     have hxd:x.o.dst=some t:=by simpa using hb
     have:=ZlF hT hist1 (List.mem_cons_self ..) (List.mem_cons_of_mem _ hy) hxd hyd
     exact absurd (by rw[this]; exact List.mem_map_of_mem hy) hni
  rw[he]; exact C.env t
 ·rcases List.mem_cons.1 hy with rfl|hy
  ·refine C.fr.sub (by omega) ?_
   have:=hms.1; omega
  ·exact C.frm y hy hd
theorem ZlH {listed:Array Bool} {i j:Nat} (hi:i<listed.size):done (listed.setIfInBounds i true) j=if j=i then true else done listed j:=by
 unfold done
 rw[Array.getD_eq_getD_getElem?,Array.getElem?_setIfInBounds,Array.getD_eq_getD_getElem?]
 by_cases h:i=j
 ·subst h; simp[hi]
 ·simp[h,Ne.symm h]
theorem Zkz {listed:Array Bool} {i:Nat} (h:i∈Region.ready .any ops listed) (hs:listed.size=ops.size) :
  i<ops.size∧done listed i=false∧∃ o,ops[i]? = some o∧∀ j∈Zaa o,done listed j=true:=by
 obtain⟨h1,o,ho,h2⟩:=mem_ready.1 h
 have hlt:=(Array.getElem?_eq_some_iff.1 ho).1
 refine⟨hlt,?_,o,ho,fun j hj => ?_⟩
 ·unfold done
  rw[Array.getD_eq_getD_getElem?,Array.getElem?_eq_getElem (by omega)] at h1 ⊢
  exact h1
 ·unfold Zaa at hj
  obtain⟨e,he,rfl⟩:=List.mem_map.1 hj
  rw[List.mem_filter] at he
  exact h2 e (by simpa using he.1) he.2
theorem Zp3 {a:Act} {r r':Ren} {nt:Nat} {dst:Option Tmp} {v:Value} (hd:∀ d,dst=some d→d<nt) (hs:a.tmps.size=nt) (he:Ext r r') (hv:bnd r'.d v=true) (E E':Tmp→Value)
  (hE:∀ t:Tmp,Tv r (E t) (a.tmps.getD t undef)) (h1:∀ t,dst=some t→E' t=v) (h2:∀ t,dst≠some t→E' t=E t) :
  ∀ t:Tmp,Tv r' (E' t) ((a.put dst (r'.val v)).tmps.getD t undef):=by
 intro t
 by_cases h:dst=some t
 ·rw[h1 t h]
  subst h
  refine .inr ⟨?_,hv⟩
  simp only[Act.put,Array.getD_eq_getD_getElem?]
  rw[Array.getElem?_setIfInBounds_self_of_lt (by rw[hs]; exact hd t rfl)]
  rfl
 ·rw[h2 t h]
  have hq:(a.put dst (r'.val v)).tmps.getD t undef=a.tmps.getD t undef→Tv r' (E t) ((a.put dst (r'.val v)).tmps.getD t undef):=fun e=>by rw[e]; exact(hE t).ext he
  refine hq ?_
  cases dst with
  | none=>rfl
  | some d =>
   have hne:d≠t:=fun e=>h (by rw[e])
   simp only[Act.put,Array.getD_eq_getD_getElem?]
   rw[Array.getElem?_setIfInBounds_ne hne]
theorem ZAh {e e1:Env} {dst:Option Tmp} {v:Value} (h:Zwv nt e dst v=some e1):∀ d,dst=some d→d<nt:=by
 intro d hd
 subst hd
 unfold Zwv at h
 have:=(Qy h).1
 simpa using this
theorem ZlI:∀ (H:List Step) (f:Fr),ZmE P call nt ops B f0 H f→∀ x∈H,JV P call ops x.e x.sin x.o=some (x.v,x.sout)∧∀ d,x.o.dst=some d→d<nt
 | [],_,_,x,hx=>nomatch hx
 | y::H,f,h,x,hx=>by
  obtain⟨fp,h1,_,_,h4,h5,_⟩:=h
  rcases List.mem_cons.1 hx with rfl|hx
  ·exact⟨h4,ZAh h5⟩
  ·exact ZlI H fp h1 x hx
theorem ZrB {H1 H2:List Step} {x:Step} {t:Tmp} (hn1:∀ y∈H1,y.o.dst≠some t) (hx:x.o.dst≠some t):(H1++x::H2).find? (fun x=>x.o.dst==some t)=H2.find? (fun x=>x.o.dst==some t):=by
 rw[List.find?_append,List.find?_eq_none.2 (fun y hy=>by simpa using hn1 y hy),List.find?_cons]
 have:(x.o.dst==some t)=false:=by simpa using hx
 rw[this]
 rfl
end
end Go.Proofs.YtagacmljbgkmoaaGreatDoor.Sy
namespace Go.Proofs.YtagacmljbgkmoaaGreatDoor.Sy
open Go.IntKind (u8 u16 u32 u64 i64)
open Go.RowKit
section
variable {P:Program} {call:QM} {nt:Nat} {ops:Array Oper} {B:List Nat} {f0 f':Fr} {r0:Ren} {w0:World}
theorem ZbJ (hB:Kf ops.toList B=true) {listed:Array Bool} (hc:∀ i o,ops[i]? = some o→done listed i=true→∀ j∈Zaa o,done listed j=true) {i:Nat} {o:Oper} (hi:ops[i]? = some o)
  (he:∀ j∈Zaa o,done listed j=true) {k:Nat} (hk:k<ops.size) (hb:(Zt 0 B i).testBit k=true):done listed k=true :=
 Ztg hB (D:=fun i=>done listed i=true) hc i o hi he k hk hb
theorem Zti (hB:Kf ops.toList B=true) (hT:Zf6 ops.toList B=true) (hc:Zcy call) (hw:WFn f0.s) {l:List Nat} {H:List Step} {f:Fr} {listed:Array Bool} {r:Ren} {a:Act} {w:World}
  (C:Cond P call nt ops B f0 f' r0 w0 l H f listed r a w) {x:Step} (hx:x∈H) (hun:done listed x.i=false) (hed:∀ j∈Zaa x.o,done listed j=true) (hil:x.i∉l) :
  (∀ t∈x.o.looksAt ops,Tm r x.e a t)∧Good r x.sin w ∧
  ∀ r' w',To r x.sin w r' x.sout w'→bnd r'.d x.v=true→Cond P call nt ops B f0 f' r0 w0 l H f (listed.setIfInBounds x.i true) r' (a.put x.o.dst (r'.val x.v)) w':=by
 have hfree:X1 x.o=true:=by
  cases hf:X1 x.o
  ·rw[C.chain x hx hf] at hun; cases hun
  ·rfl
 obtain⟨hops,_⟩:=WH H f C.hist x hx
 have hlt:x.i<ops.size:=(Array.getElem?_eq_some_iff.1 hops).1
 obtain⟨H1,H2,rfl⟩:=List.append_of_mem hx
 obtain⟨u1,u2⟩:=ZdC H1 x H2 f C.hist
 have hlater:∀ y∈H1,done listed y.i=true→(Zt 0 B y.i).testBit x.i=false:=by
  intro y hy hyd
  cases hb:(Zt 0 B y.i).testBit x.i
  ·rfl
  ·obtain⟨q1,q2⟩:=WH _ f C.hist y (by simp[hy])
   have:=ZbJ hB C.closed q1 (fun j hj=>C.closed y.i y.o q1 hyd j hj) hlt hb
   rw[hun] at this; cases this
 obtain⟨st1,st2,st3,st4⟩:=ZiY hc hw hfree H1 H2 f C.hist fun c hcm hcf=>hlater c hcm (C.chain c (by simp[hcm]) hcf)
 obtain⟨wf,nf,_,hin⟩:=ZbH hc hw _ f C.hist
 obtain⟨_,xn1,xn2,_,_,wout⟩:=hin x hx
 obtain⟨fx,hfx⟩:=ZbI H1 (x::H2) f C.hist
 have hfx':=hfx
 obtain⟨fp,hp1,hp2,hp3,_⟩:=hfx'
 -- what it sees has come up
 have vis:∀ g,Kg (Zt 0 B x.i) (K9 H2) g=false→g<x.sin.n→Xa listed (H1++x::H2) g=false:=by
  intro g hg hgn
  cases hm:Xa listed (H1++x::H2) g
  ·rfl
  ·obtain⟨y,hy,hyd,g1,g2⟩:=W7.1 hm
   rcases List.mem_append.1 hy with hy1|hy2
   ·-- later ones have later letters
    exfalso
    obtain⟨H1a,H1b,rfl⟩:=List.append_of_mem hy1
    rw[List.append_assoc,List.cons_append] at C
    obtain⟨fy,hfy⟩:=ZbI H1a _ f C.hist
    obtain⟨fq,hq1,_,hq3,_⟩:=hfy
    obtain⟨_,_,_,hq4⟩:=ZbH hc hw _ fq hq1
    have h5:=(hq4 x (by simp)).2.2.1
    have h6:y.sin.n=fq.s.n:=by rw[hq3,ZcZ]
    omega
   ·rcases List.mem_cons.1 hy2 with rfl|hy2
    ·omega
    ·exfalso
     have:(Zt 0 B x.i).testBit y.i=true:=by
      cases hb:(Zt 0 B x.i).testBit y.i
      ·have:=Zhf.2 ⟨y,hy2,hb,g1,g2⟩
       rw[hg] at this; cases this
      ·rfl
     have hyl:=(Array.getElem?_eq_some_iff.1 (WH _ f C.hist y hy).1).1
     have:=ZbJ hB C.closed hops hed hyl this
     rw[hyd] at this; cases this
 have hinA:∀ g k,look x.sin.h g=some k→∃ k',look (cut listed (H1++x::H2) f.s).h g=some k'∧k.op=k'.op∧k.cells=k'.cells∧k.it=k'.it∧k.rw=false:=by
  intro g k hk
  obtain⟨k',q1,q2,q3,q7⟩:=st1 g k hk
  have hk2:=hk
  rw[hp3] at hk2
  obtain⟨q4,q5,k'',q6,_⟩:=ZbG hk2
  have hgn:g<x.sin.n:=by
   rw[hp3,ZcZ]
   exact(ZbH hc hw H2 fp hp1).1.1 g k'' q6
  exact⟨k',JX.2 ⟨vis g q4 hgn,q1⟩,q2,q3,q7,(q5 hfree).2⟩
 have hinL:∀ y∈x.sin.lo,y∈(cut listed (H1++x::H2) f.s).lo:=by
  intro y hy
  have hy2:=hy
  rw[hp3] at hy2
  obtain⟨q1,q2⟩:=ZlE hy2
  have hgn:y.1<x.sin.n:=by
   rw[hp3,ZcZ]
   exact(ZbH hc hw H2 fp hp1).1.2 y q1
  exact Zhw.2 ⟨st3 y hy,vis y.1 q2 hgn⟩
 have dstU:∀ {y z:Step},y∈H1++x::H2→z∈H1++x::H2→∀ {t:Tmp},y.o.dst=some t→z.o.dst=some t→y.i=z.i:=fun hy hz _ h1 h2=>ZlF hT C.hist hy hz h1 h2
 refine⟨fun t ht => ?_,?_,?_⟩
 ·-- the temporaries that it reads
  have h1:=C.env t
  have h2:=Ziw H2 fp hp1 t
  have key:ZmF listed (H1++x::H2) f0.e t=KL x.e t:=by
   rw[hp2,h2]
   unfold ZmF
   cases hfd:(H1++x::H2).find? (fun x=>x.o.dst==some t) with
   | none =>
    have hn:=Zm2 hfd
    rw[List.find?_eq_none.2 (fun y hy=>by simpa using hn y (by simp[hy]))]
   | some y =>
    obtain⟨hy,hyd⟩:=ZcA hfd
    simp only[]
    rcases List.mem_append.1 hy with hy1|hy2
    ·-- a later one: it has not come up
     have hnd:done listed y.i=false:=by
      cases hd:done listed y.i
      ·rfl
      ·exfalso
       have hne:x.i≠y.i:=fun e=>u1 y hy1 e.symm
       obtain⟨_,q⟩:=Zcw hT hops (WH _ f C.hist y hy).1 hne hyd
       rcases q ht with q|q
       ·obtain⟨z,hz,e⟩:=ZiX hB C.hist (Array.getElem?_eq_some_iff.1 (WH _ f C.hist y hy).1).1 q
        obtain⟨H1a,H1b,rfl⟩:=List.append_of_mem hy1
        have C2:=C.hist
        rw[List.append_assoc,List.cons_append] at C2
        exact(ZdC H1a y _ f C2).2 z (by simp[hz]) e
       ·have:=hlater y hy1 hd
        rw[q] at this; cases this
     rw[hnd]
     simp only[cond_false]
     rw[List.find?_eq_none.2 (fun z hz=>by
      simp only[beq_iff_eq]
      intro hzd
      have e:=dstU (by simp[hz]) hy hzd hyd
      obtain⟨H1a,H1b,rfl⟩:=List.append_of_mem hy1
      have C2:=C.hist
      rw[List.append_assoc,List.cons_append] at C2
      exact(ZdC H1a y _ f C2).2 z (by simp[hz]) e)]
    ·rcases List.mem_cons.1 hy2 with rfl|hy2
     ·rw[hun]
      simp only[cond_false]
      rw[List.find?_eq_none.2 (fun z hz=>by
       simp only[beq_iff_eq]
       intro hzd
       exact u2 z hz (dstU (by simp[hz]) hy hzd hyd))]
     ·have hne:x.i≠y.i:=fun e=>u2 y hy2 e.symm
      have hxd:x.o.dst≠some t:=fun e=>hne (dstU hx hy e hyd)
      have hn1:∀ z∈H1,z.o.dst≠some t:=fun z hz e=>by
       have:=dstU (by simp[hz]) hy e hyd
       obtain⟨H1a,H1b,rfl⟩:=List.append_of_mem hz
       have C2:=C.hist
       rw[List.append_assoc,List.cons_append] at C2
       exact(ZdC H1a z _ f C2).2 y (by simp[hy2]) this.symm
      rw[ZrB hn1 hxd] at hfd
      rw[hfd]
      have hyd2:done listed y.i=true:=by
       obtain⟨_,q⟩:=Zcw hT hops (WH _ f C.hist y hy).1 hne hyd
       have hyl:=(Array.getElem?_eq_some_iff.1 (WH _ f C.hist y hy).1).1
       rcases q ht with q|q
       ·exact ZbJ hB C.closed hops hed hyl q
       ·exfalso
        obtain⟨H2a,H2b,rfl⟩:=List.append_of_mem hy2
        have C2:=C.hist
        rw[← List.cons_append,← List.append_assoc] at C2
        obtain⟨z,hz,e⟩:=ZiX hB C2 hlt q
        exact u2 z (by simp[hz]) e
      simp only[hyd2,cond_true]
  unfold Tm
  rw[← key]
  exact h1
 ·exact C.to.good.sub (fun g k hk=>let ⟨k',q1,q2,q3,q4,q5⟩:=hinA g k hk; ⟨k',q1,q2,q3,q4,fun h=>by rw[q5] at h; cases h⟩) hinL
 ·intro r' w' T hb
  have hset:∀ j,done (listed.setIfInBounds x.i true) j=if j=x.i then true else done listed j:=fun j=>ZlH (by rw[C.size]; exact hlt)
  have hmiss:∀ g,Xa (listed.setIfInBounds x.i true) (H1++x::H2) g=true↔∃ y∈H1++x::H2,y.i≠x.i∧done listed y.i=false∧y.sin.n≤g∧g<y.sout.n:=by
   intro g
   rw[W7]
   constructor
   ·rintro⟨y,hy,h1,h2⟩
    rw[hset] at h1
    split at h1
    ·cases h1
    ·rename_i e; exact⟨y,hy,e,h1,h2⟩
   ·rintro⟨y,hy,e,h1,h2⟩
    exact⟨y,hy,by rw[hset,if_neg e]; exact h1,h2⟩
  have hmf:∀ g,Xa (listed.setIfInBounds x.i true) (H1++x::H2) g=false→¬ (x.sin.n≤g∧g<x.sout.n)→Xa listed (H1++x::H2) g=false:=by
   intro g h1 h2
   cases hm:Xa listed (H1++x::H2) g
   ·rfl
   ·obtain⟨y,hy,q1,q2⟩:=W7.1 hm
    by_cases e:y.i=x.i
    ·have:y=x:=by
      rcases List.mem_append.1 hy with hy1|hy2
      ·exact absurd e (u1 y hy1)
      ·rcases List.mem_cons.1 hy2 with rfl|hy2
       ·rfl
       ·exact absurd e (u2 y hy2)
     subst this
     exact absurd q2 h2
    ·rw[(hmiss g).2 ⟨y,hy,e,q1,q2⟩] at h1; cases h1
  refine⟨C.hist,C.seq,C.ord,C.cover,by simp[C.size],fun i hi => ?_,fun y hy hf => ?_,C.after,fun i o hi hd j hj => ?_,?_,by cases x.o.dst<;>simp[Act.put,C.sz],by cases x.o.dst<;>simp[Act.put,C.def_],?_,?_,fun y hy hd => ?_⟩
  ·rw[hset,if_neg (fun e:i=x.i=>hil (e▸hi))]; exact C.unl i hi
  ·rw[hset]; split
   ·rfl
   ·exact C.chain y hy hf
  ·rw[hset] at hd ⊢
   split
   ·rfl
   ·split at hd
    ·rename_i e
     subst e
     rw[hops] at hi
     cases hi
     exact hed j hj
    ·exact C.closed i o hi hd j hj
  ·refine ZlG C.to T (fun g k hk=>let ⟨k',q1,_,_,_,q4⟩:=hinA g k hk; ⟨k',q1,fun h=>by rw[q4] at h; cases h⟩) (fun g k hk => ?_) (fun y hy => ?_) (hin x hx).1 xn2 (Nat.le_refl _)
   ·obtain⟨q1,q2⟩:=JX.1 hk
    by_cases hg:x.sin.n≤g∧g<x.sout.n
    ·left; rw[← st2 g hg.1 hg.2]; exact q2
    ·right
     exact⟨JX.2 ⟨hmf g q1 hg,q2⟩,fun k' hk'=>(hinA g k' hk').choose_spec.2.2.2.2⟩
   ·obtain⟨q1,q2⟩:=Zhw.1 hy
    by_cases hg:x.sin.n≤y.1∧y.1<x.sout.n
    ·left; exact st4 y q1 hg.1 hg.2
    ·right; exact Zhw.2 ⟨q1,hmf y.1 q2 hg⟩
  ·refine Zp3 (ZlI _ f C.hist x hx).2 C.sz T.ext hb (ZmF listed (H1++x::H2) f0.e) (ZmF (listed.setIfInBounds x.i true) (H1++x::H2) f0.e) C.env (fun t ht => ?_) (fun t ht => ?_)
   ·unfold ZmF
    have hfd:(H1++x::H2).find? (fun x=>x.o.dst==some t)=some x:=by
     cases hfd:(H1++x::H2).find? (fun x=>x.o.dst==some t) with
     | none=>exact absurd ht (Zm2 hfd x hx)
     | some y =>
      obtain⟨hy,hyd⟩:=ZcA hfd
      have e:=dstU hy hx hyd ht
      rcases List.mem_append.1 hy with hy1|hy2
      ·exact absurd e (u1 y hy1)
      ·rcases List.mem_cons.1 hy2 with rfl|hy2
       ·rfl
       ·exact absurd e (u2 y hy2)
    rw[hfd]
    simp only[hset,if_true,cond_true]
   ·unfold ZmF
    cases hfd:(H1++x::H2).find? (fun x=>x.o.dst==some t) with
    | none=>rfl
    | some y =>
     obtain⟨hy,hyd⟩:=ZcA hfd
     have hne:y.i≠x.i:=fun e=>by
      have:y=x:=by
       rcases List.mem_append.1 hy with hy1|hy2
       ·exact absurd e (u1 y hy1)
       ·rcases List.mem_cons.1 hy2 with rfl|hy2
        ·rfl
        ·exact absurd e (u2 y hy2)
      subst this
      exact ht hyd
     simp only[hset,if_neg hne]
  ·intro g g1 g2
   cases hd:r'.d g
   ·rfl
   ·rcases T.dom g hd with q|q
    ·rw[C.fr g g1 g2] at q; cases q
    ·omega
  ·rw[hset] at hd
   split at hd
   ·cases hd
   ·rename_i hne
    intro g g1 g2
    cases hdd:r'.d g
    ·rfl
    ·rcases T.dom g hdd with q|q
     ·rw[C.frm y hy hd g g1 g2] at q; cases q
     ·have:=ZrA hc hw C.hist hx hy (Ne.symm hne); omega
theorem ZrC (hB:Kf ops.toList B=true) (hT:Zf6 ops.toList B=true) (hc:Zcy call) (hw:WFn f0.s) {c:Nat} {l:List Nat} {H:List Step} {f:Fr} {listed:Array Bool} {r:Ren} {a:Act} {w:World} {o:Oper}
  (C:Cond P call nt ops B f0 f' r0 w0 (c::l) H f listed r a w) (ho:ops[c]? = some o) (hch:X1 o=false) (hed:∀ j∈Zaa o,done listed j=true) :
  ∃ x:Step,∃ f1:Fr,x.i=c∧x.o=o∧JV P call ops x.e x.sin o=some (x.v,x.sout)∧(f'.s.O→x.sout.O)∧(∀ t∈o.looksAt ops,Tm r x.e a t)∧WFn x.sin∧Good r x.sin w∧WL r x.sin.n x.sout.n ∧
  ∀ r' w',To r x.sin w r' x.sout w'→bnd r'.d x.v=true→Cond P call nt ops B f0 f' r0 w0 l (x::H) f1 (listed.setIfInBounds c true) r' (a.put o.dst (r'.val x.v)) w':=by
 obtain⟨o',ho',hni,hedm,hord1,hord⟩:=Zcz C.ord
 rw[ho] at ho'
 cases ho'
 obtain⟨x,f1,rfl,rfl,e1,e2,e3,e4,e5,e6⟩:=Zp2 ho C.seq
 have hlt:x.i<ops.size:=(Array.getElem?_eq_some_iff.1 ho).1
 have hni':∀ y∈H,y.i≠x.i:=fun y hy e=>hni (by rw[← e]; exact List.mem_map_of_mem hy)
 have hist1:ZmE P call nt ops B f0 (x::H) f1:=by
  refine⟨f,C.hist,e1,e2,e3,e4,e5,ho,hni',fun j hj => ?_,fun y hy hf=>C.after y hy hf _ (List.mem_cons_self ..)⟩
  obtain⟨y,hy,e⟩:=List.mem_map.1 (hedm j hj)
  exact⟨y,hy,e⟩
 obtain⟨w1,n1,_,hin⟩:=ZbH hc hw H f C.hist
 obtain⟨w1',_,_,hin'⟩:=ZbH hc hw (x::H) f1 hist1
 have hxn:x.sin.n=f.s.n:=by rw[e2,ZcZ]
 have hfn:f1.s.n=x.sout.n:=by rw[e5,Zhg]
 have hle:=(hin' x (List.mem_cons_self ..)).2.1
 have hms:=Zgo hc l _ _ _ e6
 have hun:done listed x.i=false:=C.unl _ (List.mem_cons_self ..)
 have vis:∀ g,Kg (Zt 0 B x.i) (K9 H) g=false→Xa listed H g=false:=by
  intro g hg
  cases hm:Xa listed H g
  ·rfl
  ·obtain⟨y,hy,hyd,g1,g2⟩:=W7.1 hm
   exfalso
   have:(Zt 0 B x.i).testBit y.i=true:=by
    cases hb:(Zt 0 B x.i).testBit y.i
    ·have:=Zhf.2 ⟨y,hy,hb,g1,g2⟩
     rw[hg] at this; cases this
    ·rfl
   have hyl:=(Array.getElem?_eq_some_iff.1 (WH _ f C.hist y hy).1).1
   have:=ZbJ hB C.closed ho hed hyl this
   rw[hyd] at this; cases this
 have hinA:∀ g k,look x.sin.h g=some k→∃ k',look (cut listed H f.s).h g=some k'∧k.op=k'.op∧k.cells=k'.cells∧k.it=k'.it∧(k.rw=true→k'.rw=true):=by
  intro g k hk
  rw[e2] at hk
  obtain⟨q1,_,k',q2,q3,q4,q6,q5⟩:=ZbG hk
  exact⟨k',JX.2 ⟨vis g q1,q2⟩,q3,q4,q6,fun h=>(q5 h).1⟩
 have hinL:∀ y∈x.sin.lo,y∈(cut listed H f.s).lo:=by
  intro y hy
  rw[e2] at hy
  obtain⟨q1,q2⟩:=ZlE hy
  exact Zhw.2 ⟨q1,vis y.1 q2⟩
 have hset:∀ j,done (listed.setIfInBounds x.i true) j=if j=x.i then true else done listed j:=fun j=>ZlH (by rw[C.size]; exact hlt)
 have hmiss:∀ g,Xa (listed.setIfInBounds x.i true) (x::H) g=Xa listed H g:=by
  intro g
  rw[Bool.eq_iff_iff,W7,W7]
  constructor
  ·rintro⟨y,hy,h1,h2⟩
   rw[hset] at h1
   split at h1
   ·cases h1
   ·rename_i e
    rcases List.mem_cons.1 hy with rfl|hy
    ·exact absurd rfl e
    ·exact⟨y,hy,h1,h2⟩
  ·rintro⟨y,hy,h1,h2⟩
   exact⟨y,List.mem_cons_of_mem _ hy,by rw[hset,if_neg (hni' y hy)]; exact h1,h2⟩
 have dstU:∀ {y z:Step},y∈x::H→z∈x::H→∀ {t:Tmp},y.o.dst=some t→z.o.dst=some t→y.i=z.i:=fun hy hz _ h1 h2=>ZlF hT hist1 hy hz h1 h2
 refine⟨x,f1,rfl,rfl,e3,fun hO => ?_,fun t ht => ?_,(hin' x (List.mem_cons_self ..)).2.2.2.2.1,C.to.good.sub (fun g k hk=>let ⟨k',q1,q2,q3,q4,q5⟩:=hinA g k hk; ⟨k',q1,q2,q3,q4,q5⟩) hinL,?_,?_⟩
 ·have:=hms.2.1 hO
  rw[e5,ZoK] at this
  exact this
 ·have h1:=C.env t
  have h2:=Ziw H f C.hist t
  have key:ZmF listed H f0.e t=KL x.e t:=by
   rw[e1,h2]
   unfold ZmF
   cases hfd:H.find? (fun x=>x.o.dst==some t) with
   | none=>rfl
   | some y =>
    obtain⟨hy,hyd⟩:=ZcA hfd
    simp only[]
    have hyd2:done listed y.i=true:=by
     have hyo:=(WH _ f C.hist y hy).1
     have hyl:=(Array.getElem?_eq_some_iff.1 hyo).1
     obtain⟨_,q⟩:=Zcw hT ho hyo (Ne.symm (hni' y hy)) hyd
     rcases q ht with q|q
     ·exact ZbJ hB C.closed ho hed hyl q
     ·exfalso
      obtain⟨Ha,Hb,rfl⟩:=List.append_of_mem hy
      obtain⟨z,hz,e⟩:=ZiX hB C.hist hlt q
      exact hni' z (by simp[hz]) e
    rw[hyd2]
    rfl
  unfold Tm
  rw[← key]
  exact h1
 ·refine C.fr.sub (by omega) ?_
  have:=hms.1; omega
 ·intro r' w' T hb
  refine⟨hist1,e6,hord,fun j hj => ?_,by simp[C.size],fun i hi => ?_,fun y hy hf => ?_,fun y hy hf j hj => ?_,fun i o hi hd j hj => ?_,?_,by cases x.o.dst<;>simp[Act.put,C.sz],by cases x.o.dst<;>simp[Act.put,C.def_],?_,?_,fun y hy hd => ?_⟩
  ·rcases C.cover j hj with h|⟨y,hy,e⟩
   ·rcases List.mem_cons.1 h with rfl|h
    ·exact .inr ⟨x,List.mem_cons_self ..,rfl⟩
    ·exact .inl h
   ·exact .inr ⟨y,List.mem_cons_of_mem _ hy,e⟩
  ·rw[hset]
   split
   ·rename_i e
    exfalso
    subst e
    -- a number stands once in an order
    have:∀ (l:List Nat) (dn:List Nat),Zct ops.toList B l dn=true→∀ i∈dn,i∉l:=by
     intro l
     induction l with
     | nil=>intro dn _ i _ h; cases h
     | cons j l ih =>
      intro dn h i hi hm
      obtain⟨_,_,q1,_,_,q2⟩:=Zcz h
      rcases List.mem_cons.1 hm with rfl|hm
      ·exact q1 hi
      ·exact ih _ q2 i (List.mem_cons_of_mem _ hi) hm
    exact this l _ hord _ (List.mem_cons_self ..) hi
   ·exact C.unl i (List.mem_cons_of_mem _ hi)
  ·rw[hset]
   split
   ·rfl
   ·rename_i e
    rcases List.mem_cons.1 hy with rfl|hy
    ·exact absurd rfl e
    ·exact C.chain y hy hf
  ·rcases List.mem_cons.1 hy with rfl|hy
   ·rcases hord1 with q|q
    ·rw[hch] at q; cases q
    ·exact q j hj
   ·exact C.after y hy hf j (List.mem_cons_of_mem _ hj)
  ·rw[hset] at hd ⊢
   split
   ·rfl
   ·split at hd
    ·rename_i e
     subst e
     rw[ho] at hi
     cases hi
     exact hed j hj
    ·exact C.closed i o hi hd j hj
  ·refine ZlG C.to T (fun g k hk=>let ⟨k',q1,_,_,_,q4⟩:=hinA g k hk; ⟨k',q1,q4⟩) (fun g k hk => ?_) (fun y hy => ?_) (by omega) (by show x.sout.n≤f1.s.n; omega) (by show f.s.n≤f1.s.n; omega)
   ·obtain⟨q1,q2⟩:=JX.1 hk
    rw[hmiss] at q1
    rcases Nat.lt_or_ge g f.s.n with hg|hg
    ·rw[e5,ZdB hg] at q2
     split at q2
     ·rename_i hcase
      right
      refine⟨JX.2 ⟨q1,q2⟩,fun k' hk' => ?_⟩
      rw[e2] at hk'
      obtain⟨q3,_,k'',q4,q5,q6,_,q7⟩:=ZbG hk'
      rcases hcase with h|h|h
      ·rw[hch] at h; cases h
      ·rw[q3] at h; cases h
      ·cases hrw:k'.rw
       ·rfl
       ·rw[(q7 hrw).2] at h; cases h
     ·exact .inl q2
    ·rw[e5,ZiW w1 hg] at q2
     exact .inl q2
   ·obtain⟨q1,q2⟩:=Zhw.1 hy
    rw[hmiss] at q2
    rw[e5] at q1
    rcases Zcx.1 q1 with q|q
    ·exact .inl q.1
    ·exact .inr (Zhw.2 ⟨q,q2⟩)
  ·refine Zp3 (ZAh e4) C.sz T.ext hb (ZmF listed H f0.e) (ZmF (listed.setIfInBounds x.i true) (x::H) f0.e) C.env (fun t ht => ?_) (fun t ht => ?_)
   ·unfold ZmF
    rw[List.find?_cons,ht]
    simp[hset]
   ·unfold ZmF
    have hb:(x.o.dst==some t)=false:=by simpa using ht
    rw[List.find?_cons,hb]
    simp only[]
    cases hfd:H.find? (fun x=>x.o.dst==some t) with
    | none=>rfl
    | some y =>
     obtain⟨hy,hyd⟩:=ZcA hfd
     simp only[hset,if_neg (hni' y hy)]
  ·intro g g1 g2
   cases hd:r'.d g
   ·rfl
   ·rcases T.dom g hd with q|q
    ·rw[C.fr g (by omega) g2] at q; cases q
    ·omega
  ·rw[hset] at hd
   split at hd
   ·cases hd
   ·rename_i hne
    rcases List.mem_cons.1 hy with rfl|hy
    ·exact absurd rfl hne
    ·intro g g1 g2
     cases hdd:r'.d g
     ·rfl
     ·rcases T.dom g hdd with q|q
      ·rw[C.frm y hy hd g g1 g2] at q; cases q
      ·have:=(hin y hy).2.2.1; omega
end
end Go.Proofs.YtagacmljbgkmoaaGreatDoor.Sy
namespace Go.Proofs.YtagacmljbgkmoaaGreatDoor.Sy
open Go.IntKind (u8 u16 u32 u64 i64)
open Go.RowKit
section
variable {P:Program} {call:QM} {nt:Nat} {ops:Array Oper} {B:List Nat} {f0 f':Fr} {r0:Ren} {w0:World} {Q:Exit→Act→World→Prop}
def left (n:Nat) (listed:Array Bool):Nat:=(List.range n).countP fun i => !done listed i
theorem ZwH {n i:Nat} {listed:Array Bool} (hi:i<n) (hs:listed.size=n) (hu:done listed i=false):left n listed=left n (listed.setIfInBounds i true)+1:=by
 unfold left
 have hset:∀ j,done (listed.setIfInBounds i true) j=if j=i then true else done listed j:=fun j=>ZlH (by omega)
 have key:∀ (l:List Nat),l.Nodup→(i∈l→l.countP (fun j => !done listed j)=l.countP (fun j => !done (listed.setIfInBounds i true) j)+1)∧(i∉l→l.countP (fun j => !done listed j)=l.countP (fun j => !done (listed.setIfInBounds i true) j)):=by
  intro l
  induction l with
  | nil=>intro _; exact⟨fun h=>(by cases h),fun _=>rfl⟩
  | cons j l ih =>
   intro hnd
   rw[List.nodup_cons] at hnd
   obtain⟨h1,h2⟩:=hnd
   obtain⟨i1,i2⟩:=ih h2
   rw[List.countP_cons,List.countP_cons]
   by_cases hj:j=i
   ·subst hj
    refine⟨fun _ => ?_,fun h=>absurd (List.mem_cons_self ..) h⟩
    rw[i2 h1,hset]
    simp[hu]
   ·rw[hset,if_neg hj]
    refine⟨fun h => ?_,fun h => ?_⟩
    ·rcases List.mem_cons.1 h with e|h
     ·exact absurd e.symm hj
     ·rw[i1 h]; omega
    ·rw[i2 fun hm=>h (List.mem_cons_of_mem _ hm)]
 exact(key _ List.nodup_range).1 (List.mem_range.2 hi)
theorem Ztj {n:Nat} {listed:Array Bool} (h:left n listed=0):∀ i,i<n→done listed i=true:=by
 intro i hi
 unfold left at h
 rw[List.countP_eq_zero] at h
 have:=h i (List.mem_range.2 hi)
 simpa using this
theorem ZBp (hB:Kf ops.toList B=true) (hT:Zf6 ops.toList B=true) (hE:∀ i o,ops[i]? = some o→∀ j∈Zaa o,j<i) (hcall:Zs P call) (hw:WFn f0.s) (hO:f'.s.O)
  (hQ:∀ r' a' w',To r0 f0.s w0 r' f'.s w'→Fits r' nt f'.e a'→Q .normal a' w') :
  ∀ (fuel:Nat) (m:Nat) (l:List Nat) (H:List Step) (f:Fr) (listed:Array Bool) (r:Ren) (a:Act) (w:World),l.length=m→left ops.size listed=fuel→Cond P call nt ops B f0 f' r0 w0 l H f listed r a w→wpAny P .any ops Q fuel listed a w:=by
 have hc:=hcall.mono
 intro fuel
 induction fuel with
 | zero =>
  intro m l H f listed r a w _ hl C
  have hall:=Ztj hl
  have hl0:l=[]:=by
   cases hll:l with
   | nil=>rfl
   | cons i l' =>
    obtain⟨o,ho,_⟩:=Zcz (hll▸C.ord)
    have:=hall i (Array.getElem?_eq_some_iff.1 ho).1
    rw[C.unl i (by rw[hll]; exact List.mem_cons_self ..)] at this
    cases this
  subst hl0
  refine⟨?_,?_⟩
  ·cases hr:Region.ready .any ops listed with
   | nil=>rfl
   | cons i rs =>
    obtain⟨q1,q2,_⟩:=Zkz (i:=i) (by rw[hr]; exact List.mem_cons_self ..) C.size
    rw[hall i q1] at q2; cases q2
  ·have hs:=C.seq
   simp only[Zka,Option.some.injEq] at hs
   subst hs
   have hm:∀ g,Xa listed H g=false:=by
    intro g
    cases hmm:Xa listed H g
    ·rfl
    ·obtain⟨x,hx,q,_⟩:=W7.1 hmm
     rw[hall x.i (Array.getElem?_eq_some_iff.1 (WH _ _ C.hist x hx).1).1] at q
     cases q
   refine hQ r a w (C.to.finish rfl (fun g k hk=>JX.2 ⟨hm g,hk⟩) ?_) ⟨C.sz,C.def_,fun t => ?_⟩
   ·unfold cut
    simp only[hm,Bool.not_false]
    exact(List.filter_eq_self.2 fun _ _=>rfl).symm
   ·have h1:=C.env t
    have h2:=Ziw H _ C.hist t
    have:ZmF listed H f0.e t=KL f.e t:=by
     rw[h2]
     unfold ZmF
     cases hfd:H.find? (fun x=>x.o.dst==some t) with
     | none=>rfl
     | some y =>
      simp only[]
      rw[hall y.i (Array.getElem?_eq_some_iff.1 (WH _ _ C.hist y (ZcA hfd).1).1).1]
      rfl
    unfold Tm
    rw[← this]
    exact h1
 | succ fuel ih =>
  have core:∀ (l:List Nat) (H:List Step) (f:Fr) (listed:Array Bool) (r:Ren) (a:Act) (w:World),left ops.size listed=fuel+1→Cond P call nt ops B f0 f' r0 w0 l H f listed r a w →
    (∀ c l' o,l=c::l'→ops[c]? = some o→X1 o=false)→wpAny P .any ops Q (fuel+1) listed a w:=by
   intro l H f listed r a w hl C hhead
   refine⟨fun hr => ?_,fun i hi => ?_⟩
   ·exfalso
    -- the least that has not come up may come up
    have hex:∀ n,∀ i,i=n→i<ops.size→done listed i=false→False:=by
     intro n
     induction n using Nat.strongRecOn with
     | _ n ihn =>
      intro i hin hi hd
      subst hin
      have ho:ops[i]? = some ops[i]:=by simp[hi]
      by_cases hall:∀ j∈Zaa ops[i],done listed j=true
      ·have:i∈Region.ready .any ops listed:=by
        rw[mem_ready]
        refine⟨?_,ops[i],ho,fun e he hb => ?_⟩
        ·have:i<listed.size:=by rw[C.size]; exact hi
         unfold done at hd
         rw[Array.getD_eq_getD_getElem?,Array.getElem?_eq_getElem this] at hd ⊢
         exact hd
        ·exact hall e.on (by unfold Zaa; exact List.mem_map.2 ⟨e,List.mem_filter.2 ⟨by simpa using he,hb⟩,rfl⟩)
       rw[hr] at this; cases this
      ·have:∃ j∈Zaa ops[i],done listed j=false:=by
        refine Classical.byContradiction fun hn=>hall fun j hj => ?_
        cases hdj:done listed j
        ·exact absurd ⟨j,hj,hdj⟩ hn
        ·rfl
       obtain⟨j,hj,hdj⟩:=this
       have hlt:=hE i _ ho j hj
       exact ihn j hlt j rfl (by omega) hdj
    have:∃ i,i<ops.size∧done listed i=false:=by
     refine Classical.byContradiction fun hn => ?_
     have hz:left ops.size listed=0:=by
      unfold left
      rw[List.countP_eq_zero]
      intro i hi
      cases hdi:done listed i
      ·exact absurd ⟨i,List.mem_range.1 hi,hdi⟩ hn
      ·simp
     omega
    obtain⟨i,h1,h2⟩:=this
    exact hex i i rfl h1 h2
   ·obtain⟨q1,q2,o,ho,he⟩:=Zkz hi C.size
    have hls:=ZwH q1 C.size q2
    have hmem:(∃ x∈H,x.i=i)∨∃ l',l=i::l':=by
     rcases C.cover i q1 with h|h
     ·cases l with
      | nil=>cases h
      | cons c l' =>
       rcases List.mem_cons.1 h with rfl|h
       ·exact .inr ⟨l',rfl⟩
       ·exfalso
        obtain⟨oc,hoc,_,_,h3,_⟩:=Zcz C.ord
        have hch:=hhead c l' oc rfl hoc
        rcases h3 with h3|h3
        ·rw[hch] at h3; cases h3
        ·have:=ZbJ hB C.closed ho he (Array.getElem?_eq_some_iff.1 hoc).1 (h3 i h)
         rw[C.unl c (List.mem_cons_self ..)] at this
         cases this
     ·exact .inl h
    rcases hmem with⟨x,hx,rfl⟩|⟨l',rfl⟩
    ·have hxo:=(WH _ _ C.hist x hx).1
     rw[ho] at hxo
     cases hxo
     have hil:x.i∉l:=fun hm=>by
      have hord:=C.ord
      have:∀ (l:List Nat) (dn:List Nat),Zct ops.toList B l dn=true→∀ i∈dn,i∉l:=by
       intro l
       induction l with
       | nil=>intro dn _ i _ h; cases h
       | cons j l ih =>
        intro dn h i hi hm
        obtain⟨_,_,q1,_,_,q2⟩:=Zcz h
        rcases List.mem_cons.1 hm with rfl|hm
        ·exact q1 hi
        ·exact ih _ q2 i (List.mem_cons_of_mem _ hi) hm
      exact this l _ hord x.i (List.mem_map_of_mem hx) hm
     obtain⟨k1,k2,k3⟩:=Zti hB hT hc hw C hx q2 he hil
     obtain⟨wf,_,_,hin⟩:=ZbH hc hw _ f C.hist
     have hms:=Zgo hc l _ _ _ C.seq
     refine(ZfF ho (ZlI _ f C.hist x hx).1 ((hin x hx).2.2.2.1 (hms.2.1 hO)) k1 (hin x hx).2.2.2.2.1 k2 (C.frm x hx q2) hcall ?_).2
     intro r' w' T hb
     exact ih _ l H f _ r' _ w' rfl (by omega) (k3 r' w' T hb)
    ·have hch:=hhead i l' o rfl ho
     obtain⟨x,f1,rfl,rfl,k0,k1,k2,kw,k3,k4,k5⟩:=ZrC hB hT hc hw C ho hch he
     refine(ZfF ho k0 (k1 hO) k2 kw k3 k4 hcall ?_).2
     intro r' w' T hb
     exact ih _ l' (x::H) f1 _ r' _ w' rfl (by omega) (k5 r' w' T hb)
  intro m
  induction m with
  | zero =>
   intro l H f listed r a w hlen hl C
   have hl0:l=[]:=List.eq_nil_of_length_eq_zero hlen
   subst hl0
   exact core [] H f listed r a w hl C fun c l' o h=>by cases h
  | succ m ihm =>
   intro l H f listed r a w hlen hl C
   cases l with
   | nil=>cases hlen
   | cons c l' =>
    obtain⟨o,ho,_⟩:=Zcz C.ord
    cases hf:X1 o
    ·refine core _ H f listed r a w hl C fun c' l2 o' h ho' => ?_
     cases h
     rw[ho] at ho'
     cases ho'
     exact hf
    ·obtain⟨H1,f1,C1⟩:=ZwG hT hc hw C ho hf
     exact ihm l' H1 f1 listed r a w (by simpa using hlen) hl C1
theorem ZlJ (h:Zlm ops.toList=true) :
  (∀ i o,ops[i]? = some o→∀ j∈Zaa o,j<i)∧(∀ i,i<ops.size→i∈ZmQ ops.toList ops.toList.length [])∧Kf ops.toList (Zfx ops.toList)=true∧Zf6 ops.toList (Zfx ops.toList)=true ∧
  Zct ops.toList (Zfx ops.toList) (ZmQ ops.toList ops.toList.length []) []=true:=by
 unfold Zlm at h
 simp only[Bool.and_eq_true] at h
 obtain⟨⟨⟨⟨⟨h1,h2⟩,_⟩,h3⟩,h4⟩,h5⟩:=h
 refine⟨fun i o hi j hj => ?_,fun i hi => ?_,h3,h4,h5⟩
 ·have hm:(o,i)∈ops.toList.zipIdx:=by
   rw[List.mem_zipIdx_iff_getElem?]
   rw[Array.getElem?_toList]; exact hi
  have:=List.all_eq_true.1 (List.all_eq_true.1 h1 _ hm) j hj
  simpa using this
 ·have:=List.all_eq_true.1 h2 i (by rw[List.mem_range,Array.length_toList]; exact hi)
  exact Zcv.1 this
theorem To.drew {r:Ren} {s:St} {w:World} (hg:Good r s w):To r s w r s { w with drawn:=w.drawn+1 } :=
 ⟨Ext.refl _,fun _ h => .inl h,Nat.le_refl _,hg,hg.heap rfl,rfl,rfl,rfl,Nat.le_refl _,fun _ _ _=>rfl,fun _ k hk => .inl ⟨k,hk,id⟩⟩
end
theorem ZlK {P:Program} {call:QM} (hcall:Zs P call):ZpY P call:=by
 intro nt id ops f f' h
 unfold ZsT at h
 obtain⟨hok,h⟩:=Qy h
 rw[Bool.and_eq_true] at hok
 obtain⟨hE,hcov,hB,hT,hS⟩:=ZlJ hok.1
 refine⟨Zgo hcall.mono _ _ _ _ h,fun hO r a w Q hf hwf hg hfr hQ => ?_⟩
 refine wp_region_any hok.2 ?_
 have hsz:(Array.replicate ops.size false).size=ops.size:=by simp
 have hd:∀ i,done (Array.replicate ops.size false) i=false:=by
  intro i
  unfold done
  rw[Array.getD_eq_getD_getElem?,Array.getElem?_replicate]
  split<;>rfl
 have hm:∀ g,Xa (Array.replicate ops.size false) [] g=false:=fun g=>rfl
 refine ZBp (f0:=f) (f':=f') (r0:=r) (w0:=w) hB hT hE hcall hwf hO hQ ops.size _ (ZmQ ops.toList ops.toList.length []) [] f (Array.replicate ops.size false) r a _ rfl ?_ ?_
 ·unfold left
  rw[List.countP_eq_length.2 (fun i _=>by simp[hd])]
  simp
 ·refine⟨rfl,h,hS,fun i hi => .inl (hcov i hi),hsz,fun i _=>hd i,fun x hx=>(by cases hx),fun x hx=>(by cases hx),fun i o _ h => ?_,?_,hf.size,hf.defers,fun t => ?_,hfr,fun x hx=>(by cases hx)⟩
  ·rw[hd] at h; cases h
  ·refine(To.drew hg).finish rfl (fun g k hk=>(JX.1 hk).2) ?_
   unfold cut
   simp only[hm,Bool.not_false]
   exact List.filter_eq_self.2 fun _ _=>rfl
  ·exact hf.tmps t
theorem Zm {P:Program} {base:QM} {lp:FuncId→Zfz} {L:Nat} (hn:ZfH P=true) (hbase:Zs P base) (hlp:∀ f fn c,P.funcs[f]? = some fn→fn.body=some c→Wg P (Wa c) (lp f)) (k:Nat):Zs P (evF P base lp L k) :=
 ZAf hn hbase hlp (fun _ h=>ZlK h) k
def Zc:QM:=fun _ _ _=>none
theorem Zf (P:Program):Zs P Zc:=fun _ _ _ _ _ h=>by cases h
def st0:St:=⟨NG,[],[],0,[],0,True⟩
def Ztk:Ren:=⟨fun g=>if g<NG then g else 0,fun _=>0,fun _=>(0,none),fun _=>0,fun g=>Nat.blt g NG,fun _ hg=>if_pos hg,fun _ _=>rfl,fun _ hg=>by simpa using hg⟩
theorem ZAi {n m:Nat} (h:NG≤n):WL Ztk n m:=fun g hg _=>by
 show Nat.blt g NG=false
 cases hb:Nat.blt g NG
 ·rfl
 ·simp at hb; omega
theorem wf0:WFn st0:=⟨fun g k h=>(by cases h),fun x h=>(by cases h)⟩
theorem good0 (r:Ren) (w:World):Good r st0 w:=⟨fun g k h=>(by cases h),fun g g' k k' h=>(by cases h),fun g k h=>(by cases h),fun x h=>(by cases h)⟩
theorem To.below {r r':Ren} {s s':St} {w w':World} (h:To r s w r' s' w') (hn:∀ g k,look s.h g=some k→k.rw=false):Below w.heap.size w w' :=
 ⟨h.os,h.tape,h.output,h.size,fun b hb=>h.frame b hb fun g k hk hrw=>by rw[hn g k hk] at hrw; cases hrw⟩
def Zb:FuncId→Zfz:=fun _ _ _ _=>none
theorem Zh (P:Program):∀ f fn c,P.funcs[f]? = some fn→fn.body=some c→Wg P (Wa c) (Zb f):=fun _ _ _ _ _ _ _ _ _ _ h=>by cases h
def rnA (σ:Nat→Nat) (a:Addr):Addr:=⟨σ a.block,a.off,a.spot.map σ⟩
def rnC (σ:Nat→Nat) (c:Nat):Nat:=bif Nat.blt c big then c else big+σ (c-big)
def rnV (σ:Nat→Nat):Nat→Value→Value
 | 0,v=>match v with
  | .pointer a => .pointer (a.map (rnA σ))
  | .slice a l c => .slice (a.map (rnA σ)) l (rnC σ c)
  | v=>v
 | d+1,v=>match v with
  | .pointer a => .pointer (a.map (rnA σ))
  | .slice a l c => .slice (a.map (rnA σ)) l (rnC σ c)
  | .func fn fs cs => .func fn ⟨fs.toList.map (rnV σ d)⟩ ⟨cs.toList.map (rnV σ d)⟩
  | .iface t v => .iface t (rnV σ d v)
  | .agg cs => .agg ⟨cs.toList.map (rnV σ d)⟩
  | .tuple cs => .tuple ⟨cs.toList.map (rnV σ d)⟩
  | v=>v
def okFn:Fn→Bool
 | .yield _=>false
 | _=>true
def okV (p:Nat→Bool):Nat→Value→Bool
 | 0,v=>match v with
  | .pointer (some a)=>Ut p a
  | .slice a _ c=>(match a with|some a=>Ut p a|none=>true)&&(Nat.blt c big||p (c-big))
  | .agg cs=>cs.toList.all Qm
  | .tuple cs=>cs.toList.all Qm
  | v=>Qm v
 | d+1,v=>match v with
  | .pointer (some a)=>Ut p a
  | .slice a _ c=>(match a with|some a=>Ut p a|none=>true)&&(Nat.blt c big||p (c-big))
  | .func fn fs cs=>okFn fn&&fs.toList.all (okV p d)&&cs.toList.all (okV p d)
  | .iface _ v=>okV p d v
  | .agg cs=>cs.toList.all (okV p d)
  | .tuple cs=>cs.toList.all (okV p d)
  | v=>Qm v
theorem Yy {p:Nat→Bool} {v:Value} (h:Qm v=true):∀ d,okV p d v=true:=by
 intro d
 cases d<;>cases v<;>first
  | rfl
  | exact h
  | (rename_i a; cases a<;>first|rfl|exact h|(simp[Qm] at h; done))
  | (rename_i a _ _; cases a<;>simp[Qm] at h<;>simp[okV,h])
  | (simp[Qm] at h; done)
theorem Q5 {p:Nat→Bool}:∀ (d:Nat) (v:Value),okV p d v=true→bnd p v=true
 | 0,v,h=>by
  cases v with
  | pointer a=>cases a with
   | none=>exact ZG _ rfl
   | some a=>rw[X9]; exact h
  | slice a l c=>rw[QT]; exact h
  | agg cs =>
   rw[K6,Array.all_eq_true_iff_forall_mem]
   exact fun v hv=>ZG _ (List.all_eq_true.1 h v (by simpa using hv))
  | tuple cs =>
   rw[Xj,Array.all_eq_true_iff_forall_mem]
   exact fun v hv=>ZG _ (List.all_eq_true.1 h v (by simpa using hv))
  | _=>exact ZG _ h
 | d+1,v,h=>by
  cases v with
  | pointer a=>cases a with
   | none=>exact ZG _ rfl
   | some a=>rw[X9]; exact h
  | slice a l c=>rw[QT]; exact h
  | agg cs =>
   rw[K6,Array.all_eq_true_iff_forall_mem]
   exact fun v hv=>Q5 d v (List.all_eq_true.1 h v (by simpa using hv))
  | tuple cs =>
   rw[Xj,Array.all_eq_true_iff_forall_mem]
   exact fun v hv=>Q5 d v (List.all_eq_true.1 h v (by simpa using hv))
  | func fn a b =>
   simp only[okV,Bool.and_eq_true] at h
   rw[JW,Bool.and_eq_true,Bool.and_eq_true]
   refine⟨⟨?_,?_⟩,?_⟩
   ·cases fn<;>first|rfl|exact h.1.1
   ·exact Array.all_eq_true_iff_forall_mem.2 fun v hv=>Q5 d v (List.all_eq_true.1 h.1.2 v (by simpa using hv))
   ·exact Array.all_eq_true_iff_forall_mem.2 fun v hv=>Q5 d v (List.all_eq_true.1 h.2 v (by simpa using hv))
  | iface t v=>rw[Zac]; exact Q5 d v h
  | _=>exact ZG _ h
theorem ZfI {p q:Nat→Bool}:∀ v:Value,bnd p v=true→bnd q v=true→bnd (fun l=>p l&&q l) v=true
 | .pointer (some a),h,h'=>by
  rw[X9] at *
  unfold Ut at *
  cases hs:a.spot<;>simp[hs] at h h' ⊢ <;> simp[h,h']
 | .pointer none,_,_=>ZG _ rfl
 | .slice a l c,h,h'=>by
  rw[QT,Bool.and_eq_true] at *
  refine⟨?_,?_⟩
  ·cases a with
   | none=>rfl
   | some a =>
    have h:=h.1
    have h':=h'.1
    simp only[] at h h' ⊢
    unfold Ut at *
    cases hs:a.spot<;>simp[hs] at h h' ⊢ <;> simp[h,h']
  ·have h:=h.2
   have h':=h'.2
   cases hb:Nat.blt c big
   ·simp only[hb,Bool.false_or] at h h' ⊢; simp[h,h']
   ·rfl
 | .func fn a b,h,h'=>by
  rw[JW,Bool.and_eq_true,Bool.and_eq_true] at *
  refine⟨⟨h.1.1,?_⟩,?_⟩
  ·exact Array.all_eq_true_iff_forall_mem.2 fun v hv=>ZfI v (Array.all_eq_true_iff_forall_mem.1 h.1.2 v hv) (Array.all_eq_true_iff_forall_mem.1 h'.1.2 v hv)
  ·exact Array.all_eq_true_iff_forall_mem.2 fun v hv=>ZfI v (Array.all_eq_true_iff_forall_mem.1 h.2 v hv) (Array.all_eq_true_iff_forall_mem.1 h'.2 v hv)
 | .iface t v,h,h'=>by rw[Zac] at *; exact ZfI v h h'
 | .agg cs,h,h'=>by
  rw[K6,Array.all_eq_true_iff_forall_mem] at *
  exact fun v hv=>ZfI v (h v hv) (h' v hv)
 | .tuple cs,h,h'=>by
  rw[Xj,Array.all_eq_true_iff_forall_mem] at *
  exact fun v hv=>ZfI v (h v hv) (h' v hv)
 | .map (some _),h,_=>by rw[bnd] at h; cases h
 | .map none,_,_=>ZG _ rfl
 | .chan (some _),h,_=>by rw[bnd] at h; cases h
 | .chan none,_,_=>ZG _ rfl
 | .bool _,_,_=>ZG _ rfl
 | .int _ _,_,_=>ZG _ rfl
 | .float _ _,_,_=>ZG _ rfl
 | .complex _ _ _,_,_=>ZG _ rfl
 | .string _,_,_=>ZG _ rfl
 | .nilFunc,_,_=>ZG _ rfl
 | .nilIface,_,_=>ZG _ rfl
termination_by v=>SizeOf.sizeOf v
decreasing_by
 all_goals simp_wf
 all_goals (first|omega|(have:=Array.sizeOf_lt_of_mem hv; omega))
section
variable {r r1:Ren} {σ:Nat→Nat} {p:Nat→Bool}
def Ren.by (r1:Ren) (σ:Nat→Nat) (p:Nat→Bool):Ren :=
 ⟨fun l=>if l<NG then l else r1.b (σ l),fun l=>if l<NG then 0 else r1.w (σ l),fun l=>r1.o (σ l),fun l=>r1.c (σ l),fun l=>Nat.blt l NG||(p l&&r1.d (σ l)),
  fun _ h=>if_pos h,fun _ h=>if_pos h,fun l h=>by simp[h]⟩
theorem ZrD (hσ:∀ l,l<NG→σ l=l) (l:Nat):(r1.by σ p).b l=r1.b (σ l):=by
 unfold Ren.by
 by_cases h:l<NG
 ·simp only[if_pos h]; rw[hσ l h,r1.hb l h]
 ·simp only[if_neg h]
theorem ZAj (hσ:∀ l,l<NG→σ l=l) (l:Nat):(r1.by σ p).w l=r1.w (σ l):=by
 unfold Ren.by
 by_cases h:l<NG
 ·simp only[if_pos h]; rw[hσ l h,r1.hw l h]
 ·simp only[if_neg h]
theorem ZBq {l:Nat} (hp:p l=true) (hd:r1.d (σ l)=true):(r1.by σ p).d l=true:=by simp[Ren.by,hp,hd]
theorem ZBr (hσ:∀ l,l<NG→σ l=l) {l:Nat} (h:(r1.by σ p).d l=true):r1.d (σ l)=true:=by
 simp only[Ren.by,Bool.or_eq_true,Bool.and_eq_true] at h
 rcases h with h|h
 ·have:l<NG:=by simpa using h
  rw[hσ l this]; exact r1.hd l this
 ·exact h.2
theorem ZlL (hσ:∀ l,l<NG→σ l=l) (a:Addr):r1.addr (rnA σ a)=(r1.by σ p).addr a:=by
 unfold Ren.addr rnA
 rw[ZrD hσ,ZAj hσ]
 cases a.spot<;>rfl
theorem ZAk (c:Nat):r1.cap (rnC σ c)=(r1.by σ p).cap c:=by
 unfold rnC
 cases h:Nat.blt c big
 ·simp only[cond_false]
  rw[KM]
  unfold Ren.cap
  rw[h]; rfl
 ·simp only[cond_true]
  rw[Zag (Zaf.1 h),Zag (Zaf.1 h)]
theorem Ztl {x v:Value} (h:Qm v=true) (e:x=v):r1.val x=(r1.by σ p).val v:=by
 subst e; rw[Qq _ h,Qq _ h]
theorem Ze0 (hσ:∀ l,l<NG→σ l=l):∀ (d:Nat) (v:Value),okV p d v=true→r1.val (rnV σ d v)=(r1.by σ p).val v
 | 0,v,h=>by
  cases v with
  | pointer a=>simp only[rnV,Y4,Option.map_map]; cases a<;>simp[ZlL (p:=p) hσ]
  | slice a l c=>simp only[rnV,ZV,Option.map_map,ZAk (p:=p)]; cases a<;>simp[ZlL (p:=p) hσ]
  | agg cs=>simp only[rnV]; rw[Kh _ (by exact h),Kh _ (by exact h)]
  | tuple cs =>
   have hf:XD (.tuple cs)=true:=by
    simp only[XD]
    exact List.all_eq_true.2 fun v hv=>by
     have:=List.all_eq_true.1 h v hv
     unfold Uv
     split
     ·simp[Qm] at this
     ·exact this
   simp only[rnV]; rw[Ki _ hf,Ki _ hf]
  | _=>exact Ztl h rfl
 | d+1,v,h=>by
  have hl:∀ l:List Value,l.all (okV p d)=true→(l.map (rnV σ d)).map r1.val=l.map (r1.by σ p).val:=fun l hl=>by
   rw[List.map_map]
   apply List.map_congr_left
   intro v hv
   exact Ze0 hσ d v (List.all_eq_true.1 hl v hv)
  cases v with
  | pointer a=>simp only[rnV,Y4,Option.map_map]; cases a<;>simp[ZlL (p:=p) hσ]
  | slice a l c=>simp only[rnV,ZV,Option.map_map,ZAk (p:=p)]; cases a<;>simp[ZlL (p:=p) hσ]
  | agg cs =>
   simp only[rnV,K4]; congr 1
   apply Array.ext'
   simpa using hl cs.toList h
  | tuple cs =>
   simp only[rnV,Xz]; congr 1
   apply Array.ext'
   simpa using hl cs.toList h
  | func fn a b =>
   simp only[okV,Bool.and_eq_true] at h
   simp only[rnV,W4]
   congr 1
   ·apply Array.ext'; simpa using hl a.toList h.1.2
   ·apply Array.ext'; simpa using hl b.toList h.2
  | iface t v=>simp only[rnV,J1]; rw[Ze0 hσ d v h]
  | _=>exact Ztl h rfl
theorem ZiZ:∀ (d:Nat) (v:Value),okV p d v=true→bnd r1.d (rnV σ d v)=true→bnd (r1.by σ p).d v=true:=by
 have hA:∀ a,Ut p a=true→Ut r1.d (rnA σ a)=true→Ut (r1.by σ p).d a=true:=by
  intro a h h'
  unfold Ut rnA at *
  simp only[Bool.and_eq_true] at *
  refine⟨ZBq h.1 h'.1,?_⟩
  cases hs:a.spot with
  | none=>rfl
  | some k=>rw[hs] at h h'; exact ZBq h.2 h'.2
 have hS:∀ a l c,bnd p (.slice a l c)=true→bnd r1.d (.slice (a.map (rnA σ)) l (rnC σ c))=true→bnd (r1.by σ p).d (.slice a l c)=true:=by
  intro a l c h h'
  rw[QT,Bool.and_eq_true] at *
  refine⟨?_,?_⟩
  ·cases a with
   | none=>rfl
   | some a=>exact hA a h.1 h'.1
  ·cases hb:Nat.blt c big
   ·have h1:=h.2
    have h2:=h'.2
    rw[hb] at h1
    unfold rnC at h2
    rw[hb] at h2
    have hbb:Nat.blt (big+σ (c-big)) big=false:=by
     cases hx:Nat.blt (big+σ (c-big)) big
     ·rfl
     ·have:=Zaf.1 hx; omega
    simp only[cond_false,hbb,Bool.false_or] at h1 h2 ⊢
    rw[show big+σ (c-big)-big=σ (c-big) by omega] at h2
    exact ZBq h1 h2
   ·rfl
 intro d
 induction d with
 | zero =>
  intro v h h'
  cases v with
  | pointer a=>cases a with
   | none=>exact ZG _ rfl
   | some a=>rw[X9]; simp only[rnV,Option.map_some] at h'; rw[X9] at h'; exact hA a h h'
  | slice a l c=>exact hS a l c (Q5 0 _ h) h'
  | agg cs =>
   rw[K6,Array.all_eq_true_iff_forall_mem]
   exact fun v hv=>ZG _ (List.all_eq_true.1 h v (by simpa using hv))
  | tuple cs =>
   rw[Xj,Array.all_eq_true_iff_forall_mem]
   exact fun v hv=>ZG _ (List.all_eq_true.1 h v (by simpa using hv))
  | _=>exact ZG _ h
 | succ d ih =>
  intro v h h'
  have hl:∀ cs:Array Value,cs.toList.all (okV p d)=true→(∀ v∈cs.toList.map (rnV σ d),bnd r1.d v=true)→cs.all (bnd (r1.by σ p).d)=true:=fun cs h1 h2=>by
   rw[Array.all_eq_true_iff_forall_mem]
   intro v hv
   exact ih v (List.all_eq_true.1 h1 v (by simpa using hv)) (h2 _ (List.mem_map_of_mem (by simpa using hv)))
  cases v with
  | pointer a=>cases a with
   | none=>exact ZG _ rfl
   | some a=>rw[X9]; simp only[rnV,Option.map_some] at h'; rw[X9] at h'; exact hA a h h'
  | slice a l c=>exact hS a l c (Q5 (d+1) _ h) h'
  | agg cs =>
   simp only[rnV] at h'
   rw[K6,Array.all_eq_true_iff_forall_mem] at h'
   rw[K6]
   exact hl cs h fun v hv=>h' v (by simpa using hv)
  | tuple cs =>
   simp only[rnV] at h'
   rw[Xj,Array.all_eq_true_iff_forall_mem] at h'
   rw[Xj]
   exact hl cs h fun v hv=>h' v (by simpa using hv)
  | func fn a b =>
   simp only[rnV] at h'
   simp only[okV,Bool.and_eq_true] at h
   rw[JW,Bool.and_eq_true,Bool.and_eq_true] at h' ⊢
   refine⟨⟨h'.1.1,?_⟩,?_⟩
   ·exact hl a h.1.2 fun v hv=>Array.all_eq_true_iff_forall_mem.1 h'.1.2 v (by simpa using hv)
   ·exact hl b h.2 fun v hv=>Array.all_eq_true_iff_forall_mem.1 h'.2 v (by simpa using hv)
  | iface t v =>
   simp only[rnV] at h'
   rw[Zac] at h' ⊢
   exact ih v h h'
  | _=>exact ZG _ h
theorem ZFo (d:Nat) (v:Value):isE (rnV σ d v)=isE v:=by
 cases d<;>cases v<;>try rfl
 rename_i d vs
 simp only[rnV,isE]
 cases vs.toList<;>rfl
theorem ZAl (d:Nat) (v:Value):isU (rnV σ d v)=isU v:=by
 cases d<;>cases v<;>try rfl
 rename_i d vs
 simp only[rnV,isU]
 cases h:vs.toList with
 | nil=>rfl
 | cons a l=>cases l with
  | nil=>exact ZFo d a
  | cons b l=>rfl
end
def Ztm (k:Blk):Prop:=k.rw=false∧k.op=some (0,0)∧k.it=none
structure SeenS (d:Nat) (p:Nat→Bool) (σ:Nat→Nat) (s1 s2:St):Prop where
 heap:∀ g k,look s2.h g=some k→p g=true∧(∀ v∈k.cells,okV p d v=true)∧(∀ q,k.op=some q→p q.1=true) ∧
  ∃ k1,look s1.h (σ g)=some k1∧(k.rw=true→k1.rw=true)∧(k1.op=k.op.map (fun q=>(σ q.1,q.2))∨Ztm k)∧k1.it=k.it∧k1.cells=k.cells.map (rnV σ d)
 inj:∀ g g' k k',look s2.h g=some k→look s2.h g'=some k'→σ g=σ g'→g=g'
 lo:∀ x∈s2.lo,p x.1=true∧∃ m,(σ x.1,m)∈s1.lo∧x.2≤m
def ZFp (d:Nat) (p:Nat→Bool) (σ:Nat→Nat) (e1 e2:Env):Prop:=∀ t,isU (KL e2 t)=true∨(okV p d (KL e2 t)=true∧KL e1 t=rnV σ d (KL e2 t))
section
variable {r r1:Ren} {σ:Nat→Nat} {p:Nat→Bool} {d:Nat} {s s1 s2:St} {w:World}
theorem ZkA (d:Nat) (v:Value):(rnV σ d v).oneCell'=v.oneCell':=by
 cases d<;>cases v<;>rfl
theorem SeenS.good (h:SeenS d p σ s1 s2) (hσ:∀ l,l<NG→σ l=l) (hg:Good r1 s1 w):Good (r1.by σ p) s2 w:=by
 refine⟨fun g k hk => ?_,fun g g' k k' h1 h2 hrw h3 => ?_,fun g k hk => ?_,fun x hx => ?_⟩
 ·obtain⟨hp,hc,ho,k1,q1,q2,q3,q4,q5⟩:=h.heap g k hk
  rcases hg.is _ _ q1 with⟨hi,arr,ty,fr,g1,g2,g3,g4⟩|⟨x,g1,g2,g3,g4,g5⟩
  ·refine .inl ⟨q4▸hi,arr,ty,fr,by rw[ZrD hσ]; exact g1,?_,fun j v hj => ?_,fun hrw=>g4 (q2 hrw)⟩
   ·rw[ZAj hσ]
    rcases q3 with q3|⟨q3,q3',_⟩
    ·cases hop:k.op with
     | none=>rw[q3,hop] at g2; rw[q5,List.length_map] at g2; exact g2
     | some q =>
      rw[q3,hop] at g2
      simp only[Option.map_some] at g2
      rw[q5,List.length_map] at g2
      refine⟨g2.1.imp (fun h => ?_) id,g2.2⟩
      cases hrw:k.rw
      ·rfl
      ·rw[q2 hrw] at h; cases h
    ·rw[q3']
     rw[q5,List.length_map] at g2
     refine⟨.inl q3,?_⟩
     cases hop:k1.op with
     | none=>rw[hop] at g2; simp only[] at g2; omega
     | some q=>rw[hop] at g2; exact g2.2
   ·rw[ZAj hσ,← Ze0 hσ d v (hc v (List.mem_of_getElem? hj))]
    exact g3 j _ (by rw[q5,List.getElem?_map,hj]; rfl)
  ·refine .inr ⟨x,by rw[← q4]; exact g1,by rw[ZrD hσ]; exact g2,?_,?_,by rw[ZAj hσ]; exact g5⟩
   ·rw[q5] at g3; exact List.map_eq_nil_iff.1 g3
   ·rcases q3 with q3|⟨_,_,q3'⟩
    ·rw[q3] at g4
     cases hop:k.op with
     | none=>rfl
     | some q=>rw[hop] at g4; cases g4
    ·rw[q4,q3'] at g1; cases g1
 ·obtain⟨_,_,_,k1,q1,q2,_⟩:=h.heap g k h1
  obtain⟨_,_,_,k1',q1',_⟩:=h.heap g' k' h2
  rw[ZrD hσ,ZrD hσ] at h3
  exact h.inj g g' k k' h1 h2 (hg.inj _ _ _ _ q1 q1' (q2 hrw) h3)
 ·obtain⟨hp,hc,ho,k1,q1,q2,q3,q4,q5⟩:=h.heap g k hk
  obtain⟨l1,l2,l3⟩:=hg.lt _ _ q1
  refine⟨ZBq hp l1,fun q hq=>by
   rcases q3 with q3|⟨_,q3',_⟩
   ·exact ZBq (ho q hq) (l2 _ (by rw[q3,hq]; rfl))
   ·rw[q3'] at hq; cases hq; exact(r1.by σ p).hd 0 (by decide),fun v hv => ?_⟩
  obtain⟨l4,l5⟩:=l3 (rnV σ d v) (by rw[q5]; exact List.mem_map_of_mem hv)
  exact⟨ZiZ d v (hc v hv) l4,by rw[ZkA] at l5; exact l5⟩
 ·obtain⟨hp,m,hm,hle⟩:=h.lo x hx
  have:=hg.lo _ hm
  exact⟨Nat.le_trans hle this.1,ZBq hp this.2⟩
theorem Tv.by {e1 e2:Env} {t:Nat} {u:Value} (h:isU (KL e2 t)=true∨(okV p d (KL e2 t)=true∧KL e1 t=rnV σ d (KL e2 t))) (hσ:∀ l,l<NG→σ l=l) (hT:Tv r1 (KL e1 t) u):Tv (r1.by σ p) (KL e2 t) u:=by
 rcases h with h|⟨h1,h2⟩
 ·exact .inl h
 ·rw[h2] at hT
  rcases hT with h|⟨h3,h4⟩
  ·rw[ZAl] at h; exact .inl h
  ·exact .inr ⟨by rw[h3,Ze0 hσ d _ h1],ZiZ d _ h1 h4⟩
theorem ZFp.fits {nt:Nat} {e1 e2:Env} {a:Act} (h:ZFp d p σ e1 e2) (hσ:∀ l,l<NG→σ l=l) (hf:Fits r1 nt e1 a):Fits (r1.by σ p) nt e2 a :=
 ⟨hf.size,hf.defers,fun t=>Tv.by (h t) hσ (hf.tmps t)⟩
def Ren.low (r:Ren) (n:Nat):Ren:=⟨r.b,r.w,r.o,r.c,fun l=>Nat.blt l NG||(r.d l&&Nat.blt l n),r.hb,r.hw,fun l h=>by simp[h]⟩
theorem ZoL (n:Nat):(r.low n).val=r.val:=by
 funext v
 have:∀ v:Value,(r.low n).val v=r.val v:=by
  intro v
  have e1:(r.low n).addr=r.addr:=rfl
  have e2:(r.low n).cap=r.cap:=rfl
  have key:∀ m:Nat,∀ v:Value,SizeOf.sizeOf v≤m→(r.low n).val v=r.val v:=by
   intro m
   induction m with
   | zero=>intro v hv; cases v<;>simp at hv
   | succ m ih =>
    intro v hv
    have harr:∀ cs:Array Value,SizeOf.sizeOf cs≤m→cs.map (r.low n).val=cs.map r.val:=fun cs hcs =>
     Array.map_congr_left fun v hv=>ih v (by have:=Array.sizeOf_lt_of_mem hv; omega)
    cases v with
    | pointer a=>rw[Y4,Y4,e1]
    | slice a l c=>rw[ZV,ZV,e1,e2]
    | func f a b=>simp at hv; rw[W4,W4,harr a (by omega),harr b (by omega)]
    | iface t v=>simp at hv; rw[J1,J1,ih v (by omega)]
    | agg cs=>simp at hv; rw[K4,K4,harr cs (by omega)]
    | tuple cs=>simp at hv; rw[Xz,Xz,harr cs (by omega)]
    | map m=>rw[Ren.val,Ren.val]<;>simp
    | chan m=>rw[Ren.val,Ren.val]<;>simp
    | _=>rw[Ren.val,Ren.val]<;>simp
  exact key _ v (Nat.le_refl _)
 exact this v
structure OkS (q:Nat→Bool) (s:St):Prop where
 heap:∀ g k,look s.h g=some k→q g=true∧(∀ p,k.op=some p→q p.1=true)∧∀ v∈k.cells,bnd q v=true
 lo:∀ x∈s.lo,q x.1=true
theorem ZBs {n l:Nat} (h:r.d l=true) (hl:l<n):(r.low n).d l=true:=by simp[Ren.low,h,hl]
theorem ZoM {n:Nat} {v:Value} (h:bnd r.d v=true) (hq:bnd (fun l=>Nat.blt l n) v=true):bnd (r.low n).d v=true :=
 VV (fun l hl=>by
  simp only[Bool.and_eq_true] at hl
  simp only[Ren.low,Bool.or_eq_true,Bool.and_eq_true]
  exact .inr hl) v (ZfI v h hq)
theorem Is.low {k:Blk} {g n:Nat} (h:Is r k g w):Is (r.low n) k g w:=by
 rcases h with⟨hi,arr,ty,fr,h1,h2,h3,h4⟩|h
 ·exact .inl ⟨hi,arr,ty,fr,h1,h2,fun j v hj=>by rw[ZoL]; exact h3 j v hj,h4⟩
 ·exact .inr h
theorem Good.low {n:Nat} (hg:Good r s w) (hq:OkS (fun l=>Nat.blt l n) s):Good (r.low n) s w:=by
 refine⟨fun g k hk=>(hg.is g k hk).low,hg.inj,fun g k hk => ?_,fun x hx => ?_⟩
 ·obtain⟨h1,h2,h3⟩:=hq.heap g k hk
  obtain⟨l1,l2,l3⟩:=hg.lt g k hk
  exact⟨ZBs l1 (by simpa using h1),fun q hq=>ZBs (l2 q hq) (by simpa using h2 q hq),fun v hv=>⟨ZoM (l3 v hv).1 (h3 v hv),(l3 v hv).2⟩⟩
 ·have:=hg.lo x hx
  exact⟨this.1,ZBs this.2 (by simpa using hq.lo x hx)⟩
theorem Fits.low {nt n:Nat} {e:Env} {a:Act} (hf:Fits r nt e a) (hq:∀ t,isU (KL e t)=true∨bnd (fun l=>Nat.blt l n) (KL e t)=true):Fits (r.low n) nt e a:=by
 refine⟨hf.size,hf.defers,fun t => ?_⟩
 rcases hf.tmps t with h|⟨h1,h2⟩
 ·exact .inl h
 ·rcases hq t with h|h
  ·exact .inl h
  ·exact .inr ⟨by rw[ZoL]; exact h1,ZoM h2 h⟩
theorem Zgp {n m:Nat} (hn:NG≤n):WL (r.low n) n m:=fun g hg _=>by
 have h1:Nat.blt g NG=false:=by
  cases h:Nat.blt g NG
  ·rfl
  ·simp at h; omega
 have h2:Nat.blt g n=false:=by
  cases h:Nat.blt g n
  ·rfl
  ·simp at h; omega
 simp[Ren.low,h1,h2]
end
def XP (N M:Nat) (σ:Nat→Nat) (p:Nat→Bool) (l:Nat):Bool:=Nat.blt l NG||(bif Nat.blt l N then Nat.beq (σ l) l&&p l else Nat.blt l M)
section
variable {r r1 r3:Ren} {σ:Nat→Nat} {p:Nat→Bool} {d:Nat} {s s1 sM s3:St} {w w1 w3:World}
def Ren.or (r r3:Ren) (N M:Nat):Ren :=
 ⟨fun l=>bif r.d l then r.b l else r3.b l,fun l=>bif r.d l then r.w l else r3.w l,fun l=>bif r.d l then r.o l else r3.o l,fun l=>bif r.d l then r.c l else r3.c l,fun l=>r.d l||(Nat.ble N l&&Nat.blt l M&&r3.d l),
  fun l h=>by rw[r.hd l h]; exact r.hb l h,fun l h=>by rw[r.hd l h]; exact r.hw l h,fun l h=>by rw[r.hd l h]; rfl⟩
theorem ZAm (r r3:Ren) (N M:Nat):Ext r (r.or r3 N M) :=
 ⟨fun g h=>by simp[Ren.or,h],fun g h=>by simp[Ren.or,h],fun g h=>by simp[Ren.or,h],fun g h=>by simp[Ren.or,h],fun g h=>by simp[Ren.or,h]⟩
theorem To.behind (hg:Good r s w) (hNG:NG≤s.n) (T1:To (r.low s.n) s w r1 s1 w1) (hσ:∀ l,l<NG→σ l=l) (hS:SeenS d p σ s1 sM) (T2:To (r1.by σ p) sM w1 r3 s3 w3)
  (hM:s.n≤sM.n) (hfr:WL r s.n s3.n) (hq:OkS (XP s.n s3.n σ p) s3) (hro:∀ g k,look sM.h g=some k→k.rw=false→σ g=g∨look s.h (σ g)=none) :
  To r s w (r.or r3 s.n s3.n) s3 w3∧∀ v u,bnd (XP s.n s3.n σ p) v=true→Tv r3 v u→Tv (r.or r3 s.n s3.n) v u:=by
 -- where the letters agree
 have agree:∀ l,XP s.n s3.n σ p l=true→r3.d l=true→(r.or r3 s.n s3.n).d l=true∧(r.or r3 s.n s3.n).b l=r3.b l∧(r.or r3 s.n s3.n).w l=r3.w l∧(r.or r3 s.n s3.n).o l=r3.o l∧(r.or r3 s.n s3.n).c l=r3.c l:=by
  intro l hk hd
  have low:l<s.n→σ l=l→r.d l=true∧r3.b l=r.b l∧r3.w l=r.w l∧r3.o l=r.o l∧r3.c l=r.c l:=by
   intro hl hs
   have h2:(r1.by σ p).d l=true:=by
    rcases T2.dom l hd with h|h
    ·exact h
    ·omega
   have h1:=ZBr hσ h2
   rw[hs] at h1
   have h0:(r.low s.n).d l=true:=by
    rcases T1.dom l h1 with h|h
    ·exact h
    ·omega
   have hr:r.d l=true:=by
    simp only[Ren.low,Bool.or_eq_true,Bool.and_eq_true] at h0
    rcases h0 with h|h
    ·exact r.hd l (by simpa using h)
    ·exact h.1
   refine⟨hr,?_,?_,?_,?_⟩
   ·rw[T2.ext.b l h2,ZrD hσ,hs,T1.ext.b l h0]; rfl
   ·rw[T2.ext.w l h2,ZAj hσ,hs,T1.ext.w l h0]; rfl
   ·rw[T2.ext.o l h2]; show r1.o (σ l)=_; rw[hs,T1.ext.o l h0]; rfl
   ·rw[T2.ext.c l h2]; show r1.c (σ l)=_; rw[hs,T1.ext.c l h0]; rfl
  have fin:(r.d l=true∧r3.b l=r.b l∧r3.w l=r.w l∧r3.o l=r.o l∧r3.c l=r.c l)→(r.or r3 s.n s3.n).d l=true∧(r.or r3 s.n s3.n).b l=r3.b l∧(r.or r3 s.n s3.n).w l=r3.w l∧(r.or r3 s.n s3.n).o l=r3.o l∧(r.or r3 s.n s3.n).c l=r3.c l:=by
   rintro⟨h0,h1,h2,h3,h4⟩
   have E:=ZAm r r3 s.n s3.n
   exact⟨E.d l h0,by rw[E.b l h0,h1],by rw[E.w l h0,h2],by rw[E.o l h0,h3],by rw[E.c l h0,h4]⟩
  unfold XP at hk
  rw[Bool.or_eq_true] at hk
  rcases hk with hk|hk
  ·have hl:l<NG:=by simpa using hk
   exact fin (low (by omega) (hσ l hl))
  ·cases hb:Nat.blt l s.n<;>rw[hb] at hk
   ·simp only[cond_false,Nat.blt_eq] at hk
    have hge:s.n≤l:=by
     rcases Nat.lt_or_ge l s.n with h|h
     ·rw[(Nat.blt_eq).mpr h] at hb; cases hb
     ·exact h
    have hn:=hfr l hge hk
    have h1:Nat.ble s.n l=true:=Nat.ble_eq_true_of_le hge
    have h2:Nat.blt l s3.n=true:=(Nat.blt_eq).mpr hk
    simp[Ren.or,hn,hd,h1,hk]
   ·simp only[cond_true,Bool.and_eq_true] at hk
    have hl:l<s.n:=by simpa using hb
    exact fin (low hl (eB hk.1))
 have E3:Ext ⟨r3.b,r3.w,r3.o,r3.c,fun l=>Nat.blt l NG||(XP s.n s3.n σ p l&&r3.d l),r3.hb,r3.hw,fun l h=>by simp[h]⟩ (r.or r3 s.n s3.n):=by
  have key:∀ g,(Nat.blt g NG||(XP s.n s3.n σ p g&&r3.d g))=true→XP s.n s3.n σ p g=true∧r3.d g=true:=by
   intro g h
   rw[Bool.or_eq_true,Bool.and_eq_true] at h
   rcases h with h|h
   ·exact⟨by unfold XP; rw[h]; rfl,r3.hd g (by simpa using h)⟩
   ·exact h
  exact⟨fun g h=>(agree g (key g h).1 (key g h).2).1,fun g h=>(agree g (key g h).1 (key g h).2).2.1,fun g h=>(agree g (key g h).1 (key g h).2).2.2.1,fun g h=>(agree g (key g h).1 (key g h).2).2.2.2.1,fun g h=>(agree g (key g h).1 (key g h).2).2.2.2.2⟩
 have hbv:∀ v,bnd (XP s.n s3.n σ p) v=true→bnd r3.d v=true→bnd (fun l=>Nat.blt l NG||(XP s.n s3.n σ p l&&r3.d l)) v=true:=fun v h1 h2 =>
  VV (fun l h=>by rw[h]; simp) v (ZfI v h1 h2)
 have hval:∀ v,bnd (XP s.n s3.n σ p) v=true→bnd r3.d v=true→(r.or r3 s.n s3.n).val v=r3.val v∧bnd (r.or r3 s.n s3.n).d v=true:=by
  intro v h1 h2
  have h3:=hbv v h1 h2
  refine⟨?_,VV E3.d v h3⟩
  rw[Zad E3 v h3]
  have:∀ (r r':Ren),r.b=r'.b→r.w=r'.w→r.o=r'.o→r.c=r'.c→r.val=r'.val:=by
   intro r r' e1 e2 e3 e4
   funext v
   have a1:r.addr=r'.addr:=by funext a; unfold Ren.addr; rw[e1,e2,e3]
   have a2:r.cap=r'.cap:=by funext a; unfold Ren.cap; rw[e4]
   have key:∀ m:Nat,∀ v:Value,SizeOf.sizeOf v≤m→r.val v=r'.val v:=by
    intro m
    induction m with
    | zero=>intro v hv; cases v<;>simp at hv
    | succ m ih =>
     intro v hv
     have harr:∀ cs:Array Value,SizeOf.sizeOf cs≤m→cs.map r.val=cs.map r'.val:=fun cs hcs =>
      Array.map_congr_left fun v hv=>ih v (by have:=Array.sizeOf_lt_of_mem hv; omega)
     cases v with
     | pointer a=>rw[Y4,Y4,a1]
     | slice a l c=>rw[ZV,ZV,a1,a2]
     | func f a b=>simp at hv; rw[W4,W4,harr a (by omega),harr b (by omega)]
     | iface t v=>simp at hv; rw[J1,J1,ih v (by omega)]
     | agg cs=>simp at hv; rw[K4,K4,harr cs (by omega)]
     | tuple cs=>simp at hv; rw[Xz,Xz,harr cs (by omega)]
     | map m=>rw[Ren.val,Ren.val]<;>simp
     | chan m=>rw[Ren.val,Ren.val]<;>simp
     | _=>rw[Ren.val,Ren.val]<;>simp
   exact key _ v (Nat.le_refl _)
  exact congrFun (this ⟨r3.b,r3.w,r3.o,r3.c,fun l=>Nat.blt l NG||(XP s.n s3.n σ p l&&r3.d l),r3.hb,r3.hw,fun l h=>by simp[h]⟩ r3 rfl rfl rfl rfl) v
 have hG3:=T2.good
 have hsM:∀ g k,look sM.h g=some k→∃ k1,look s1.h (σ g)=some k1∧(k.rw=true→k1.rw=true):=fun g k hk=>by
  obtain⟨_,_,_,k1,q1,q2,_⟩:=hS.heap g k hk
  exact⟨k1,q1,q2⟩
 have hb0:∀ g k,look s.h g=some k→r1.b g=r.b g:=fun g k hk=>T1.ext.b g (T1.good0.lt g k hk).1
 have hle:=T2.le
 refine⟨⟨ZAm _ _ _ _,fun g h => ?_,by omega,hg,⟨fun g k hk => ?_,fun g g' k k' h1 h2 hrw h3 => ?_,fun g k hk => ?_,fun x hx => ?_⟩,T2.os.trans T1.os,T2.tape.trans T1.tape,T2.output.trans T1.output,Nat.le_trans T1.size T2.size,fun b hb hn => ?_,fun g k hk => ?_⟩,fun v u h1 h2 => ?_⟩
 ·simp only[Ren.or,Bool.or_eq_true,Bool.and_eq_true,Nat.blt_eq] at h
  rcases h with h|h
  ·exact .inl h
  ·exact .inr ⟨Nat.le_of_ble_eq_true h.1.1,h.1.2⟩
 ·obtain⟨a1,a2,a3⟩:=hq.heap g k hk
  obtain⟨l1,l2,l3⟩:=hG3.lt g k hk
  obtain⟨_,b2,b3,_,_⟩:=agree g a1 l1
  rcases hG3.is g k hk with⟨hi,arr,ty,fr,g1,g2,g3,g4⟩|⟨x,g1,g2,g3,g4,g5⟩
  ·refine .inl ⟨hi,arr,ty,fr,by rw[b2]; exact g1,?_,fun j v hj => ?_,g4⟩
   ·rw[b3]
    cases hop:k.op with
    | none=>rw[hop] at g2; exact g2
    | some q=>rw[hop] at g2; simp only[] at g2 ⊢; rw[(agree q.1 (a2 q hop) (l2 q hop)).2.2.2.2]; exact g2
   ·have hv:=List.mem_of_getElem? hj
    rw[b3,(hval v (a3 v hv) (l3 v hv).1).1]
    exact g3 j v hj
  ·exact .inr ⟨x,g1,by rw[b2]; exact g2,g3,g4,by rw[b3]; exact g5⟩
 ·rw[(agree g (hq.heap g k h1).1 (hG3.lt g k h1).1).2.1,(agree g' (hq.heap g' k' h2).1 (hG3.lt g' k' h2).1).2.1] at h3
  exact hG3.inj g g' k k' h1 h2 hrw h3
 ·obtain⟨a1,a2,a3⟩:=hq.heap g k hk
  obtain⟨l1,l2,l3⟩:=hG3.lt g k hk
  exact⟨(agree g a1 l1).1,fun q hq=>(agree q.1 (a2 q hq) (l2 q hq)).1,fun v hv=>⟨(hval v (a3 v hv) (l3 v hv).1).2,(l3 v hv).2⟩⟩
 ·have:=hG3.lo x hx
  obtain⟨a1,_,_,_,a5⟩:=agree x.1 (hq.lo x hx) this.2
  exact⟨by rw[a5]; exact this.1,a1⟩
 ·refine(T2.frame b (Nat.lt_of_lt_of_le hb T1.size) fun g k hk hrw e => ?_).trans (T1.frame b hb fun g k hk hrw=>hn g k hk hrw)
  obtain⟨k1,q1,q2⟩:=hsM g k hk
  rw[ZrD hσ] at e
  rcases T1.own _ k1 q1 with⟨k0,q3,q4⟩|q3|⟨g0,k0,q3,q4,q5⟩
  ·exact hn _ k0 q3 (q4 (q2 hrw)) ((hb0 _ k0 q3).symm.trans e)
  ·omega
  ·exact hn g0 k0 q3 q4 (q5.trans e)
 ·obtain⟨_,b2,_⟩:=agree g (hq.heap g k hk).1 (hG3.lt g k hk).1
  rw[b2]
  rcases T2.own g k hk with⟨k0,q1,q2⟩|q1|⟨g0,k0,q1,q2,q3⟩
  ·obtain⟨k1,q3,q4⟩:=hsM g k0 q1
   have hr3:r3.b g=r1.b (σ g):=by rw[T2.ext.b g ((hS.good hσ T1.good).lt g k0 q1).1,ZrD hσ]
   rcases T1.own _ k1 q3 with⟨k00,q5,q6⟩|q5|⟨g1,k00,q5,q6,q7⟩
   ·by_cases hs:σ g=g
    ·exact .inl ⟨k00,by rw[hs] at q5; exact q5,fun h=>q6 (q4 (q2 h))⟩
    ·cases hk0:k0.rw
     ·rcases hro g k0 q1 hk0 with h|h
      ·exact absurd h hs
      ·rw[h] at q5; cases q5
     ·exact .inr (.inr ⟨σ g,k00,q5,q6 (q4 hk0),by rw[hr3,hb0 _ k00 q5]⟩)
   ·exact .inr (.inl (by rw[hr3]; exact q5))
   ·exact .inr (.inr ⟨g1,k00,q5,q6,by rw[hr3]; exact q7⟩)
  ·have:=T1.size; exact .inr (.inl (by omega))
  ·obtain⟨k1,q4,q5⟩:=hsM g0 k0 q1
   rw[ZrD hσ] at q3
   rcases T1.own _ k1 q4 with⟨k00,q6,q7⟩|q6|⟨g1,k00,q6,q7,q8⟩
   ·exact .inr (.inr ⟨σ g0,k00,q6,q7 (q5 q2),by rw[← hb0 _ k00 q6]; exact q3⟩)
   ·exact .inr (.inl (by omega))
   ·exact .inr (.inr ⟨g1,k00,q6,q7,q8.trans q3⟩)
 ·rcases h2 with h|⟨h2,h3⟩
  ·exact .inl h
  ·obtain⟨h4,h5⟩:=hval v h1 h3
   exact .inr ⟨by rw[h4]; exact h2,h5⟩
end
end Go.Proofs.YtagacmljbgkmoaaGreatDoor.Sy
namespace Go.Proofs.YtagacmljbgkmoaaGreatDoor.Sy
open Go.IntKind (u8 u16 u32 u64 i64)
open Go.RowKit
def ZFq:Nat→Env
 | 0=>[]
 | n+1=>[unk,unk,unk,unk,unk,unk,unk,unk,unk,unk,unk,unk,unk,unk,unk,unk]::ZFq n
def ZLC:List (Nat×Value)→Env→Env
 | [],e=>e
 | x::l,e=>ZFj (ZLC l e) x.1 x.2
def mkE (nt:Nat) (l:List (Nat×Value)):Env:=ZLC l (ZFq (nt/16+1))
structure Sf where
 n:Nat
 e:List (Nat×Value)
 h:Heap
 lo:List (Nat×Nat)
def Sf.st (f:Sf):St:=⟨f.n,f.h,f.lo,0,[],0,True⟩
def Sf.fr (nt:Nat) (f:Sf):Fr:=⟨mkE nt f.e,f.st⟩
def Sf.frT (nt:Nat) (f:Sf) (T:List (Nat×Bool)):Fr:=⟨mkE nt f.e,⟨f.n,f.h,f.lo,0,T,0,True⟩⟩
theorem Zm3:∀ (n t:Nat),KL (ZFq n) t=if t<16*n then unk else undef
 | 0,t=>by rw[if_neg (by omega)]; unfold ZFq; exact Zp0 t
 | n+1,t=>by
  unfold KL ZFq
  by_cases h:t<16
  ·have h0:t/16=0:=by omega
   rw[if_pos (by omega),h0]
   simp only[Zt]
   have:t=0∨t=1∨t=2∨t=3∨t=4∨t=5∨t=6∨t=7∨t=8∨t=9∨t=10∨t=11∨t=12∨t=13∨t=14∨t=15:=by omega
   rcases this with rfl|rfl|rfl|rfl|rfl|rfl|rfl|rfl|rfl|rfl|rfl|rfl|rfl|rfl|rfl|rfl<;>rfl
  ·have h0:t/16=(t-16)/16+1:=by omega
   have h1:t%16=(t-16)%16:=by omega
   rw[h0,h1]
   simp only[Zt]
   have:=Zm3 n (t-16)
   unfold KL at this
   rw[this]
   by_cases h2:t-16<16*n
   ·rw[if_pos h2,if_pos (by omega)]
   ·rw[if_neg h2,if_neg (by omega)]
theorem Zi0:∀ (l:List (Nat×Value)) (e:Env) (t:Nat),KL (ZLC l e) t=match l.find? (fun x=>x.1==t) with|some x=>x.2|none=>KL e t
 | [],e,t=>rfl
 | x::l,e,t=>by
  rw[ZLC,Zgc,List.find?_cons]
  by_cases h:x.1=t
  ·rw[if_pos h.symm]
   have:(x.1==t)=true:=by simpa using h
   rw[this]
  ·rw[if_neg (fun e=>h e.symm)]
   have:(x.1==t)=false:=by simpa using h
   rw[this]
   exact Zi0 l e t
theorem Ztn (nt:Nat) (l:List (Nat×Value)) (t:Nat):(∃ v,(t,v)∈l∧KL (mkE nt l) t=v)∨KL (mkE nt l) t=unk∨(nt≤t∧KL (mkE nt l) t=undef):=by
 unfold mkE
 rw[Zi0]
 cases hf:l.find? (fun x=>x.1==t) with
 | some x =>
  have h1:=List.mem_of_find?_eq_some hf
  have h2:=List.find?_some hf
  have h2:x.1=t:=by simpa using h2
  exact .inl ⟨x.2,by rw[← h2]; exact h1,rfl⟩
 | none =>
  simp only[]
  rw[Zm3]
  by_cases h:t<16*(nt/16+1)
  ·rw[if_pos h]; exact .inr (.inl rfl)
  ·rw[if_neg h]; exact .inr (.inr ⟨by omega,rfl⟩)
theorem Zto {r:Ren} {nt:Nat} {a:Act} {l:List (Nat×Value)} (hs:a.tmps.size=nt) (hd:a.defers=[]) (h:∀ x∈l,Tv r x.2 (a.tmps.getD x.1 undef)):Fits r nt (mkE nt l) a:=by
 refine⟨hs,hd,fun(t:Nat) => ?_⟩
 unfold Tm
 rcases Ztn nt l t with⟨v,h1,h2⟩|h1|⟨h1,h2⟩
 ·rw[h2]; exact h (t,v) h1
 ·rw[h1]; exact .inl rfl
 ·rw[h2]
  refine .inr ⟨?_,Zdx _⟩
  rw[Zf7,Array.getD_eq_getD_getElem?,Array.getElem?_eq_none (by omega)]; rfl
def Zi1 (d:Nat) (p:Nat→Bool) (σ:Nat→Nat) (e1:Env):List (Nat×Value)→Prop
 | []=>True
 | x::l=>(okV p d x.2=true∧KL e1 x.1=rnV σ d x.2)∧Zi1 d p σ e1 l
theorem Zi1.mem {d:Nat} {p:Nat→Bool} {σ:Nat→Nat} {e1:Env}:∀ {l:List (Nat×Value)},Zi1 d p σ e1 l→∀ x∈l,okV p d x.2=true∧KL e1 x.1=rnV σ d x.2
 | [],_,x,hx=>nomatch hx
 | y::l,h,x,hx=>by
  rcases List.mem_cons.1 hx with rfl|hx
  ·exact h.1
  ·exact Zi1.mem h.2 x hx
theorem Zi1.fits {r1:Ren} {nt d:Nat} {p:Nat→Bool} {σ:Nat→Nat} {e1:Env} {l:List (Nat×Value)} {a:Act} (h:Zi1 d p σ e1 l) (hσ:∀ l,l<NG→σ l=l) (hf:Fits r1 nt e1 a):Fits (r1.by σ p) nt (mkE nt l) a:=by
 refine Zto hf.size hf.defers fun x hx => ?_
 obtain⟨h1,h2⟩:=h.mem x hx
 have hT:=hf.tmps x.1
 unfold Tm at hT
 rw[h2] at hT
 rcases hT with h|⟨h3,h4⟩
 ·rw[ZAl] at h; exact .inl h
 ·exact .inr ⟨by rw[h3,Ze0 hσ d _ h1],ZiZ d _ h1 h4⟩
def opB:Option (Nat×Nat)→Option (Nat×Nat)→Bool
 | none,none=>true
 | some a,some b=>Nat.beq a.1 b.1&&Nat.beq a.2 b.2
 | _,_=>false
theorem Ztp {a b:Option (Nat×Nat)} (h:opB a b=true):a=b:=by
 cases a<;>cases b<;>first|rfl|(cases h; done)|skip
 simp only[opB,Bool.and_eq_true] at h
 rename_i x y
 obtain⟨x1,x2⟩:=x
 obtain⟨y1,y2⟩:=y
 have h1:=eB h.1
 have h2:=eB h.2
 simp only[] at h1 h2
 rw[h1,h2]
def Zm4 (k:Blk):Bool:=!k.rw&&opB k.op (some (0,0))&&Zow k.it
theorem Zm5 {k:Blk} (h:Zm4 k=true):Ztm k:=by
 simp only[Zm4,Bool.and_eq_true,Bool.not_eq_true'] at h
 exact⟨h.1.1,Ztp h.1.2,ZbC h.2⟩
def Ztq:Option (ByteArray×Nat)→Option (ByteArray×Nat)→Prop
 | none,none=>True
 | some a,some b=>a=b
 | _,_=>False
theorem Zm6 {a b:Option (ByteArray×Nat)} (h:Ztq a b):a=b:=by
 cases a<;>cases b<;>first|rfl|exact h.elim|(rw[show _=_ from h])
def Vr (d:Nat) (p:Nat→Bool) (σ:Nat→Nat) (h1:Heap):Heap→Prop
 | []=>True
 | x::l=>(p x.1=true∧x.2.cells.all (okV p d)=true∧(match x.2.op with|none=>true|some q=>p q.1)=true ∧
   (match look h1 (σ x.1) with
       | none=>False
       | some k1=>(!x.2.rw||k1.rw)=true∧(opB k1.op (x.2.op.map fun q=>(σ q.1,q.2))||Zm4 x.2)=true∧Ztq k1.it x.2.it∧k1.cells=x.2.cells.map (rnV σ d)))∧Vr d p σ h1 l
theorem Qb:∀ {h:Heap} {g:Nat} {k:Blk},look h g=some k→(g,k)∈h
 | [],g,k,hk=>by cases hk
 | x::h,g,k,hk=>by
  rw[Qs] at hk
  split at hk
  ·rename_i e; subst e; cases hk; exact List.mem_cons_self ..
  ·exact List.mem_cons_of_mem _ (Qb hk)
theorem Vr.mem {d:Nat} {p:Nat→Bool} {σ:Nat→Nat} {h1:Heap}:∀ {l:Heap},Vr d p σ h1 l→∀ x∈l,p x.1=true∧(∀ v∈x.2.cells,okV p d v=true)∧(∀ q,x.2.op=some q→p q.1=true) ∧
   ∃ k1,look h1 (σ x.1)=some k1∧(x.2.rw=true→k1.rw=true)∧(k1.op=x.2.op.map (fun q=>(σ q.1,q.2))∨Ztm x.2)∧k1.it=x.2.it∧k1.cells=x.2.cells.map (rnV σ d)
 | [],_,x,hx=>nomatch hx
 | y::l,h,x,hx=>by
  rcases List.mem_cons.1 hx with rfl|hx
  ·obtain⟨a,b,c,e⟩:=h.1
   refine⟨a,fun v hv=>List.all_eq_true.1 b v hv,fun q hq=>by rw[hq] at c; exact c,?_⟩
   split at e
   ·exact e.elim
   ·rename_i k1 hk1
    refine⟨k1,hk1,fun hrw => ?_,?_,Zm6 e.2.2.1,e.2.2.2⟩
    ·have:=e.1
     rw[hrw] at this
     simpa using this
    ·have:=e.2.1
     rw[Bool.or_eq_true] at this
     exact this.imp Ztp Zm5
  ·exact Vr.mem h.2 x hx
def Zi2:List (Nat×Nat)→Nat→Nat→Prop
 | [],_,_=>False
 | y::l,k,m=>bif Nat.beq y.1 k then m≤y.2 else Zi2 l k m
theorem Zi3:∀ {l:List (Nat×Nat)} {k m:Nat},Zi2 l k m→∃ m',(k,m')∈l∧m≤m'
 | [],k,m,h=>h.elim
 | y::l,k,m,h=>by
  simp only[Zi2] at h
  cases hb:Nat.beq y.1 k<;>rw[hb] at h
  ·obtain⟨m',h1,h2⟩:=Zi3 h
   exact⟨m',List.mem_cons_of_mem _ h1,h2⟩
  ·have:=eB hb
   subst this
   exact⟨y.2,List.mem_cons_self ..,h⟩
def ZbK (p:Nat→Bool) (σ:Nat→Nat) (l1:List (Nat×Nat)):List (Nat×Nat)→Prop
 | []=>True
 | x::l=>(p x.1=true∧Zi2 l1 (σ x.1) x.2)∧ZbK p σ l1 l
theorem ZbK.mem {p:Nat→Bool} {σ:Nat→Nat} {l1:List (Nat×Nat)}:∀ {l:List (Nat×Nat)},ZbK p σ l1 l→∀ x∈l,p x.1=true∧∃ m,(σ x.1,m)∈l1∧x.2≤m
 | [],_,x,hx=>nomatch hx
 | y::l,h,x,hx=>by
  rcases List.mem_cons.1 hx with rfl|hx
  ·exact⟨h.1.1,Zi3 h.1.2⟩
  ·exact ZbK.mem h.2 x hx
def Ztr (σ:Nat→Nat):Heap→Bool
 | []=>true
 | x::l=>(l.all fun y => !Nat.beq (σ x.1) (σ y.1)||Nat.beq x.1 y.1)&&Ztr σ l
theorem ZdD {σ:Nat→Nat}:∀ {h:Heap},Ztr σ h=true→∀ x∈h,∀ y∈h,σ x.1=σ y.1→x.1=y.1
 | [],_,x,hx,_,_,_=>nomatch hx
 | z::l,h,x,hx,y,hy,e=>by
  simp only[Ztr,Bool.and_eq_true] at h
  have key:∀ y∈l,σ z.1=σ y.1→z.1=y.1:=fun y hy e=>by
   have:=List.all_eq_true.1 h.1 y hy
   rw[Bool.or_eq_true] at this
   rcases this with h|h
   ·rw[e,Nat.beq_refl] at h; cases h
   ·exact eB h
  rcases List.mem_cons.1 hx with hx'|hx'<;>rcases List.mem_cons.1 hy with hy'|hy'
  ·rw[hx',hy']
  ·subst hx'; exact key y hy' e
  ·subst hy'; exact(key x hx' e.symm).symm
  ·exact ZdD h.2 x hx' y hy' e
theorem ZeK {d:Nat} {p:Nat→Bool} {σ:Nat→Nat} {s1:St} {f:Sf} (h1:Vr d p σ s1.h f.h) (h2:Ztr σ f.h=true) (h3:ZbK p σ s1.lo f.lo):SeenS d p σ s1 f.st :=
 ⟨fun _ _ hk=>h1.mem _ (Qb hk),fun _ _ _ _ q1 q2 e=>ZdD h2 _ (Qb q1) _ (Qb q2) e,fun x hx=>h3.mem x hx⟩
def OkH (q:Nat→Bool):Heap→Prop
 | []=>True
 | x::l=>(q x.1=true∧(match x.2.op with|none=>true|some p=>q p.1)=true∧∀ v∈x.2.cells,bnd q v=true)∧OkH q l
theorem OkH.mem {q:Nat→Bool}:∀ {l:Heap},OkH q l→∀ x∈l,q x.1=true∧(∀ p,x.2.op=some p→q p.1=true)∧∀ v∈x.2.cells,bnd q v=true
 | [],_,x,hx=>nomatch hx
 | y::l,h,x,hx=>by
  rcases List.mem_cons.1 hx with rfl|hx
  ·obtain⟨a,b,c⟩:=h.1
   exact⟨a,fun p hp=>by rw[hp] at b; exact b,c⟩
  ·exact OkH.mem h.2 x hx
structure Sf.Ok (q:Nat→Bool) (f:Sf):Prop where
 h:OkH q f.h
 lo:f.lo.all (fun x=>q x.1)=true
 e:∀ x∈f.e,bnd q x.2=true
theorem Sf.Ok.s {q:Nat→Bool} {f:Sf} (h:f.Ok q):OkS q f.st:=⟨fun _ _ hk=>h.h.mem _ (Qb hk),fun x hx=>List.all_eq_true.1 h.lo x hx⟩
theorem Sf.Ok.t {q:Nat→Bool} {f:Sf} (h:f.Ok q) (nt t:Nat):isU (KL (mkE nt f.e) t)=true∨bnd q (KL (mkE nt f.e) t)=true:=by
 rcases Ztn nt f.e t with⟨v,h1,h2⟩|h1|⟨_,h2⟩
 ·rw[h2]; exact .inr (h.e _ h1)
 ·rw[h1]; exact .inl rfl
 ·rw[h2]; exact .inr (Zdx _)
structure Sf.Wf (f:Sf):Prop where
 ng:NG≤f.n
 ok:f.Ok (fun l=>Nat.blt l f.n)
theorem Sf.Wf.wfn {f:Sf} (h:f.Wf):WFn f.st :=
 ⟨fun g k hk=>by have:=(h.ok.h.mem _ (Qb hk)).1; show g<f.n; simpa using this,fun x hx=>by have:=List.all_eq_true.1 h.ok.lo x hx; show x.1<f.n; simpa using this⟩
structure Sf.Leads (d:Nat) (p:Nat→Bool) (σ:Nat→Nat) (f:Sf) (g:Fr) (m e:Sf):Prop where
 σ0:∀ l,l<NG→σ l=l
 h:Vr d p σ g.s.h m.h
 inj:Ztr σ m.h=true
 lo:ZbK p σ g.s.lo m.lo
 l:Zi1 d p σ g.e m.e
 n:f.n≤m.n
 pn:∀ l,m.n≤l→p l=false
 keep:e.Ok (XP f.n e.n σ p)
 ro:∀ x∈m.h,x.2.rw=false→σ x.1=x.1∨look f.h (σ x.1)=none
section
variable {P:Program} {call:QM} {lp:Zfz} {nt L:Nat} {c:Code}
def ZBt (e:Env):List (Nat×Value)→Prop
 | []=>True
 | x::l=>KL e x.1=x.2∧ZBt e l
def ZBu (h:Heap):Heap→Prop
 | []=>True
 | x::l=>(match look h x.1 with
   | none=>False
   | some k=>(!x.2.rw||k.rw)=true∧(opB x.2.op k.op||Zm4 x.2)=true∧Ztq x.2.it k.it∧x.2.cells=k.cells)∧ZBu h l
def ZBv (lo:List (Nat×Nat)):List (Nat×Nat)→Prop
 | []=>True
 | x::l=>Zi2 lo x.1 x.2∧ZBv lo l
def wfB (f:Sf):Bool:=(f.h.all fun x=>Nat.blt x.1 f.n)&&f.lo.all fun x=>Nat.blt x.1 f.n
def ZmG:Code→Nat
 | .region id _ _=>id+1
 | .seq a b=>match ZmG a with|0=>ZmG b|n+1=>n+1
 | .cond _ a b=>match ZmG a with|0=>ZmG b|n+1=>n+1
 | .block _ a=>ZmG a
 | .loop a=>ZmG a
 | _=>0
def KN (P:Program) (f:FuncId):Code:=match (P.funcs[f]?).bind (·.body) with|some c=>c|none => .skip
def Qe (P:Program) (f:FuncId) (i:Nat):Code:=Zt .skip (Wa (KN P f)) i
def Zm7:List Nat→Bool
 | []=>true
 | x::l=>(l.all fun y => !Nat.beq x y)&&Zm7 l
structure Ent (P:Program) where
 f:FuncId
 i:Nat
 sel:Nat→Fr→Option (Sf×Exit×Sf×Prop)
 once_:Zm7 ((Wa (KN P f)).map ZmG)=true
 there:Nat.blt i (Yf (Wa (KN P f)))=true
 ok:∀ nt fr a x b q,sel nt fr=some (a,x,b,q)→q→Vh P nt (Qe P f i) (a.fr nt) x (b.fr nt)
def ZwI {P:Program} (f key:Nat):List (Ent P)→Option (Ent P)
 | []=>none
 | e::l=>bif Nat.beq e.f f&&Nat.beq (ZmG (Qe P e.f e.i)) key then some e else ZwI f key l
def ZLW {P:Program} (l:List (Ent P)):FuncId→Zfz:=fun g nt c f =>
 (ZwI g (ZmG c) l).bind fun e=>(e.sel nt f).bind fun x=>bif Nat.beq f.s.n x.1.n&&Nat.ble x.1.n x.2.2.1.n&&wfB x.2.2.1 then
  some (x.2.1,⟨mkE nt x.2.2.1.e,{ n:=x.2.2.1.n,h:=x.2.2.1.h++f.s.h.filter (fun y => !(x.1.h.any fun z=>z.2.rw&&Nat.beq z.1 y.1)),lo:=x.2.2.1.lo++f.s.lo,esc:=f.s.esc,T:=f.s.T,k:=f.s.k,O:=f.s.O∧ZBt f.e x.1.e∧ZBu f.s.h x.1.h∧ZBv f.s.lo x.1.lo∧x.2.2.2 }⟩)
 else none
theorem ZkB {f key:Nat}:∀ {l:List (Ent P)} {e:Ent P},ZwI f key l=some e→e.f=f∧ZmG (Qe P e.f e.i)=key
 | [],e,h=>by cases h
 | x::l,e,h=>by
  simp only[ZwI] at h
  cases hb:(Nat.beq x.f f&&Nat.beq (ZmG (Qe P x.f x.i)) key)<;>rw[hb] at h
  ·exact ZkB h
  ·simp only[cond_true,Option.some.injEq] at h
   subst h
   rw[Bool.and_eq_true] at hb
   exact⟨eB hb.1,eB hb.2⟩
theorem Zp4:∀ {l:List Nat},Zm7 l=true→∀ (i j x:Nat),l[i]? = some x→l[j]? = some x→i=j
 | [],_,i,j,x,h,_=>by simp at h
 | y::l,h,i,j,x,hi,hj=>by
  simp only[Zm7,Bool.and_eq_true] at h
  have key:∀ z∈l,y≠z:=fun z hz e=>by
   have:=List.all_eq_true.1 h.1 z hz
   rw[e,Nat.beq_refl] at this; cases this
  cases i with
  | zero=>cases j with
   | zero=>rfl
   | succ j =>
    simp at hi hj
    exact absurd hi (key x (List.mem_of_getElem? hj))
  | succ i=>cases j with
   | zero =>
    simp at hi hj
    exact absurd hj (key x (List.mem_of_getElem? hi))
   | succ j =>
    simp at hi hj
    rw[Zp4 h.2 i j x hi hj]
theorem Ent.code (e:Ent P) {c:Code} (hc:c∈Wa (KN P e.f)) (hk:ZmG (Qe P e.f e.i)=ZmG c):Qe P e.f e.i=c:=by
 obtain⟨j,hj,rfl⟩:=List.getElem_of_mem hc
 have hlt:e.i<(Wa (KN P e.f)).length:=by
  have:=e.there
  rw[Qr] at this
  simpa using this
 have hg:=Zlp (.skip:Code) (Wa (KN P e.f)) e.i hlt
 have h1:((Wa (KN P e.f)).map ZmG)[e.i]? = some (ZmG (Qe P e.f e.i)):=by
  rw[List.getElem?_map,hg]; rfl
 have h2:((Wa (KN P e.f)).map ZmG)[j]? = some (ZmG (Qe P e.f e.i)):=by
  rw[List.getElem?_map,List.getElem?_eq_getElem hj,hk]; rfl
 have:=Zp4 e.once_ e.i j _ h1 h2
 subst this
 rw[List.getElem?_eq_getElem hlt] at hg
 exact(Option.some.inj hg).symm
theorem Zm8 {e:Env}:∀ {l:List (Nat×Value)},ZBt e l→∀ x∈l,KL e x.1=x.2
 | [],_,x,hx=>nomatch hx
 | y::l,h,x,hx=>by
  rcases List.mem_cons.1 hx with rfl|hx
  ·exact h.1
  ·exact Zm8 h.2 x hx
theorem Zm9 {h1:Heap}:∀ {l:Heap},ZBu h1 l→∀ x∈l,∃ k,look h1 x.1=some k∧(x.2.op=k.op∨Ztm x.2)∧x.2.cells=k.cells∧x.2.it=k.it∧(x.2.rw=true→k.rw=true)
 | [],_,x,hx=>nomatch hx
 | y::l,h,x,hx=>by
  rcases List.mem_cons.1 hx with rfl|hx
  ·have h:=h.1
   split at h
   ·exact h.elim
   ·rename_i k hk
    obtain⟨h1,h2,h3,h4⟩:=h
    rw[Bool.or_eq_true] at h2
    refine⟨k,hk,h2.imp Ztp Zm5,h4,Zm6 h3,fun hrw => ?_⟩
    rw[hrw] at h1
    simpa using h1
  ·exact Zm9 h.2 x hx
theorem Zi4 {l1:List (Nat×Nat)}:∀ {l:List (Nat×Nat)},ZBv l1 l→∀ x∈l,∃ m,(x.1,m)∈l1∧x.2≤m
 | [],_,x,hx=>nomatch hx
 | y::l,h,x,hx=>by
  rcases List.mem_cons.1 hx with rfl|hx
  ·exact Zi3 h.1
  ·exact Zi4 h.2 x hx
theorem ZBw (l:List (Ent P)):∀ f fn c,P.funcs[f]? = some fn→fn.body=some c→Wg P (Wa c) (ZLW l f):=by
 intro g fn cb hfn hcb nt c f f' x h
 unfold ZLW at h
 replace h:=oB h
 obtain⟨e,he,h⟩:=h
 replace h:=oB h
 obtain⟨⟨a,ex,b,q⟩,hsel,h⟩:=h
 obtain⟨hc,h⟩:=Qy h
 simp only[Option.some.injEq,Prod.mk.injEq] at h
 obtain⟨rfl,rfl⟩:=h
 simp only[Bool.and_eq_true,wfB] at hc
 obtain⟨⟨h1,h2⟩,h3,h4⟩:=hc
 have h1:=eB h1
 have h2:=Nat.le_of_ble_eq_true h2
 have hlk:∀ g k,look (b.h++f.s.h.filter (fun y => !(a.h.any fun z=>z.2.rw&&Nat.beq z.1 y.1))) g=some k→look b.h g=some k∨(look f.s.h g=some k∧∀ k',look a.h g=some k'→k'.rw=false):=by
  intro g k hk
  rw[XO] at hk
  cases he:look b.h g with
  | some k1=>rw[he] at hk; exact .inl (by simpa using hk)
  | none =>
   rw[he] at hk
   simp only[Option.none_or] at hk
   rw[YJ (fun x => !(a.h.any fun z=>z.2.rw&&Nat.beq z.1 x))] at hk
   split at hk
   ·rename_i hp
    refine .inr ⟨hk,fun k' hk' => ?_⟩
    simp only[Bool.not_eq_true',List.any_eq_false] at hp
    have:=hp _ (Qb hk')
    cases hrw:k'.rw
    ·rfl
    ·simp[hrw] at this
   ·cases hk
 refine⟨⟨by show f.s.n≤b.n; omega,fun h=>h.1,fun hw=>⟨fun g k hk => ?_,fun x hx => ?_⟩⟩,?_⟩
 ·show g<b.n
  rcases hlk g k hk with h|⟨h,_⟩
  ·have:=List.all_eq_true.1 h3 _ (Qb h); simpa using this
  ·have:=hw.1 g k h; omega
 ·show x.1<b.n
  simp only[List.mem_append] at hx
  rcases hx with hx|hx
  ·have:=List.all_eq_true.1 h4 x hx; simpa using this
  ·have:=hw.2 x hx; omega
 rintro hmem ⟨_,q1,q2,q3,q4⟩ r ac w Q hf hwf hg hfr hQ
 obtain⟨rfl,hkey⟩:=ZkB he
 have hbody:KN P e.f=cb:=by unfold KN; rw[hfn]; simp only[Option.bind_some,hcb]
 have hcode:=e.code (by rw[hbody]; exact hmem) hkey
 have q4:=e.ok nt f a ex b q hsel q4
 rw[hcode] at q4
 have hl:∀ g k,look a.h g=some k→∃ k',look f.s.h g=some k'∧(k.op=k'.op∨Ztm k)∧k.cells=k'.cells∧k.it=k'.it∧(k.rw=true→k'.rw=true):=fun g k hk=>Zm9 q2 _ (Qb hk)
 have hg1:Good r { a.st with lo:=[] } w:=hg.sub' hl (fun x hx=>by cases hx)
 have hg0:Good r a.st w:=⟨hg1.is,hg1.inj,hg1.lt,fun x hx=>by
  obtain⟨m,h1,h2⟩:=Zi4 q3 x hx
  have:=hg.lo _ h1
  exact⟨Nat.le_trans h2 this.1,this.2⟩⟩
 have hf0:Fits r nt (mkE nt a.e) ac:=Zto hf.size hf.defers fun x hx=>by
  have:=hf.tmps x.1
  unfold Tm at this
  rw[Zm8 q1 x hx] at this
  exact this
 have hwf0:WFn a.st:=⟨fun g k hk=>by obtain⟨k',h,_⟩:=hl g k hk; show g<a.n; have:=hwf.1 g k' h; omega,fun x hx=>by
  obtain⟨m,h1,_⟩:=Zi4 q3 x hx
  have:=hwf.2 _ h1
  show x.1<a.n
  omega⟩
 refine q4 r ac w Q hf0 hwf0 hg0 (by show WL r a.n b.n; rw[← h1]; exact hfr) ?_
 intro r' a' w' T hf'
 refine hQ r' a' w' ?_ hf'
 exact ZlG (To.refl hg) T (fun g k hk=>let ⟨k',p1,_,_,_,p2⟩:=hl g k hk; ⟨k',p1,p2⟩) hlk (fun x hx=>List.mem_append.1 hx) (by show f.s.n≤a.n; omega) (Nat.le_refl _) (by show f.s.n≤b.n; omega)
end
end Go.Proofs.YtagacmljbgkmoaaGreatDoor.Sy
namespace Go.Proofs.YtagacmljbgkmoaaGreatDoor.Sy
open Go.IntKind (u8 u16 u32 u64 i64)
open Go.RowKit
section
variable {r r1:Ren} {σ:Nat→Nat} {p:Nat→Bool}
theorem ZFr (hσ:∀ l,l<NG→σ l=l):∀ (d:Nat) (v:Value),okV p d v=true→bnd (r1.by σ p).d v=true→bnd r1.d (rnV σ d v)=true:=by
 have hA:∀ a,Ut (r1.by σ p).d a=true→Ut r1.d (rnA σ a)=true:=by
  intro a h'
  unfold Ut rnA at *
  simp only[Bool.and_eq_true] at *
  refine⟨ZBr hσ h'.1,?_⟩
  cases hs:a.spot with
  | none=>rfl
  | some k=>rw[hs] at h'; exact ZBr hσ h'.2
 have hS:∀ a l c,bnd (r1.by σ p).d (.slice a l c)=true→bnd r1.d (.slice (a.map (rnA σ)) l (rnC σ c))=true:=by
  intro a l c h'
  rw[QT,Bool.and_eq_true] at *
  refine⟨?_,?_⟩
  ·cases a with
   | none=>rfl
   | some a=>exact hA a h'.1
  ·unfold rnC
   cases hb:Nat.blt c big
   ·have h2:=h'.2
    rw[hb,Bool.false_or] at h2
    simp only[cond_false,Bool.or_eq_true]
    right
    rw[show big+σ (c-big)-big=σ (c-big) by omega]
    exact ZBr hσ h2
   ·simp only[cond_true,hb,Bool.true_or]
 intro d
 induction d with
 | zero =>
  intro v h h'
  cases v with
  | pointer a=>cases a with
   | none=>exact ZG _ rfl
   | some a=>rw[X9] at h'; simp only[rnV,Option.map_some]; rw[X9]; exact hA a h'
  | slice a l c=>exact hS a l c h'
  | agg cs =>
   simp only[rnV]
   rw[K6,Array.all_eq_true_iff_forall_mem]
   exact fun v hv=>ZG _ (List.all_eq_true.1 h v (by simpa using hv))
  | tuple cs =>
   simp only[rnV]
   rw[Xj,Array.all_eq_true_iff_forall_mem]
   exact fun v hv=>ZG _ (List.all_eq_true.1 h v (by simpa using hv))
  | _=>exact ZG _ h
 | succ d ih =>
  intro v h h'
  have hl:∀ cs:Array Value,cs.toList.all (okV p d)=true→cs.all (bnd (r1.by σ p).d)=true→∀ v∈cs.toList.map (rnV σ d),bnd r1.d v=true:=fun cs h1 h2 v hv=>by
   obtain⟨u,hu,rfl⟩:=List.mem_map.1 hv
   exact ih u (List.all_eq_true.1 h1 u hu) (Array.all_eq_true_iff_forall_mem.1 h2 u (by simpa using hu))
  cases v with
  | pointer a=>cases a with
   | none=>exact ZG _ rfl
   | some a=>rw[X9] at h'; simp only[rnV,Option.map_some]; rw[X9]; exact hA a h'
  | slice a l c=>exact hS a l c h'
  | agg cs =>
   rw[K6] at h'
   simp only[rnV]
   rw[K6,Array.all_eq_true_iff_forall_mem]
   exact fun v hv=>hl cs h h' v (by simpa using hv)
  | tuple cs =>
   rw[Xj] at h'
   simp only[rnV]
   rw[Xj,Array.all_eq_true_iff_forall_mem]
   exact fun v hv=>hl cs h h' v (by simpa using hv)
  | func fn a b =>
   simp only[okV,Bool.and_eq_true] at h
   rw[JW,Bool.and_eq_true,Bool.and_eq_true] at h'
   simp only[rnV]
   rw[JW,Bool.and_eq_true,Bool.and_eq_true]
   refine⟨⟨h'.1.1,?_⟩,?_⟩
   ·exact Array.all_eq_true_iff_forall_mem.2 fun v hv=>hl a h.1.2 h'.1.2 v (by simpa using hv)
   ·exact Array.all_eq_true_iff_forall_mem.2 fun v hv=>hl b h.2 h'.2 v (by simpa using hv)
  | iface t v =>
   rw[Zac] at h'
   simp only[rnV]
   rw[Zac]
   exact ih v h h'
  | _=>exact ZG _ h
end
def rnB (σ:Nat→Nat) (d:Nat) (k:Blk):Blk:=⟨k.rw,k.op.map fun q=>(σ q.1,q.2),k.cells.map (rnV σ d),k.it⟩
def rnH (σ:Nat→Nat) (d:Nat) (h:Heap):Heap:=h.map fun x=>(σ x.1,rnB σ d x.2)
theorem Ja {σ:Nat→Nat} {d:Nat}:∀ {h:Heap} {l:Nat} {k':Blk},look (rnH σ d h) l=some k'→∃ g k,look h g=some k∧l=σ g∧k'=rnB σ d k
 | [],l,k',h=>by cases h
 | x::h,l,k',hk=>by
  unfold rnH at hk
  rw[List.map_cons,Qs] at hk
  split at hk
  ·rename_i e
   cases hk
   exact⟨x.1,x.2,by rw[Qs,if_pos rfl],e,rfl⟩
  ·rename_i e
   obtain⟨g,k,h1,h2,h3⟩:=Ja hk
   refine⟨g,k,?_,h2,h3⟩
   rw[Qs,if_neg]
   ·exact h1
   ·intro e'; subst e'; exact e h2
def lift (n N:Nat) (ρ:List Nat) (l:Nat):Nat:=bif Nat.blt l NG then l else bif Nat.blt l n then Zt 0 ρ (l-NG) else N+(l-n)
theorem Zhh {n N:Nat} {ρ:List Nat} (l:Nat) (h:l<NG):lift n N ρ l=l:=by
 unfold lift; rw[(Nat.blt_eq).mpr h]; rfl
theorem ZwJ {n N:Nat} {ρ:List Nat} {l:Nat} (hn:NG≤n) (h:n≤l):lift n N ρ l=N+(l-n):=by
 unfold lift
 have h1:Nat.blt l NG=false:=by
  cases h1:Nat.blt l NG
  ·rfl
  ·simp at h1; omega
 have h2:Nat.blt l n=false:=by
  cases h1:Nat.blt l n
  ·rfl
  ·simp at h1; omega
 rw[h1,h2]; rfl
section
variable {P:Program} {r r3:Ren} {s:St} {w w':World} {n n' N d:Nat} {ρ:List Nat} {h0 h1:Heap} {lo0 lo1:List (Nat×Nat)}
def Ren.lift (r r3:Ren) (n n' N:Nat):Ren :=
 ⟨fun l=>bif r.d l then r.b l else r3.b (n+(l-N)),fun l=>bif r.d l then r.w l else r3.w (n+(l-N)),fun l=>bif r.d l then r.o l else r3.o (n+(l-N)),fun l=>bif r.d l then r.c l else r3.c (n+(l-N)),
  fun l=>r.d l||(Nat.ble N l&&Nat.blt l (N+(n'-n))&&r3.d (n+(l-N))),
  fun l h=>by rw[r.hd l h]; exact r.hb l h,fun l h=>by rw[r.hd l h]; exact r.hw l h,fun l h=>by rw[r.hd l h]; rfl⟩
theorem Zp5 (r r3:Ren) (n n' N:Nat):Ext r (r.lift r3 n n' N) :=
 ⟨fun g h=>by simp[Ren.lift,h],fun g h=>by simp[Ren.lift,h],fun g h=>by simp[Ren.lift,h],fun g h=>by simp[Ren.lift,h],fun g h=>by simp[Ren.lift,h]⟩
theorem ZFs (hNG:NG≤n) (hn:n≤n') (hfr:WL r N (N+(n'-n))) (T:∀ g,r3.d g=true→(r.by (Sy.lift n N ρ) (fun l=>Nat.blt l n)).d g=true∨(n≤g∧g<n'))
  (E:Ext (r.by (Sy.lift n N ρ) (fun l=>Nat.blt l n)) r3):Ext r3 ((r.lift r3 n n' N).by (Sy.lift n N ρ) (fun l=>Nat.blt l n')):=by
 have hσ:=Zhh (n:=n) (N:=N) (ρ:=ρ)
 have key:∀ g,r3.d g=true→(Nat.blt g n'=true)∧(r.lift r3 n n' N).d (Sy.lift n N ρ g)=true∧(r.lift r3 n n' N).b (Sy.lift n N ρ g)=r3.b g∧(r.lift r3 n n' N).w (Sy.lift n N ρ g)=r3.w g∧(r.lift r3 n n' N).o (Sy.lift n N ρ g)=r3.o g∧(r.lift r3 n n' N).c (Sy.lift n N ρ g)=r3.c g:=by
  intro g hg
  rcases T g hg with h|⟨h1,h2⟩
  ·have hlt:g<n:=by
    simp only[Ren.by,Bool.or_eq_true,Bool.and_eq_true] at h
    rcases h with h|h
    ·simp at h; omega
    ·simpa using h.1
   have hd:=ZBr hσ h
   have L:=Zp5 r r3 n n' N
   refine⟨by simp; omega,L.d _ hd,?_,?_,?_,?_⟩
   ·rw[L.b _ hd,E.b g h,ZrD hσ]
   ·rw[L.w _ hd,E.w g h,ZAj hσ]
   ·rw[L.o _ hd,E.o g h]; rfl
   ·rw[L.c _ hd,E.c g h]; rfl
  ·rw[ZwJ hNG h1]
   have hf:=hfr (N+(g-n)) (by omega) (by omega)
   have e:n+(N+(g-n)-N)=g:=by omega
   have a1:Nat.ble N (N+(g-n))=true:=Nat.ble_eq_true_of_le (by omega)
   have a2:Nat.blt (N+(g-n)) (N+(n'-n))=true:=(Nat.blt_eq).mpr (by omega)
   simp only[Ren.lift,hf,cond_false,e,a1,a2,hg,Bool.false_or,Bool.and_self,and_self,and_true]
   simpa using h2
 exact⟨fun g hg=>ZBq (key g hg).1 (key g hg).2.1,fun g hg=>by rw[ZrD hσ]; exact(key g hg).2.2.1,fun g hg=>by rw[ZAj hσ]; exact(key g hg).2.2.2.1,fun g hg=>(key g hg).2.2.2.2.1,fun g hg=>(key g hg).2.2.2.2.2⟩
theorem To.lift (hg:Good r s w) (hfr:WL r s.n (s.n+(n'-n))) (hNG:NG≤n) (hn:n≤n')
  (hS:SeenS d (fun l=>Nat.blt l n) (Sy.lift n s.n ρ) s ⟨n,h0,lo0,0,[],0,True⟩) (T:To (r.by (Sy.lift n s.n ρ) (fun l=>Nat.blt l n)) ⟨n,h0,lo0,0,[],0,True⟩ w r3 ⟨n',h1,lo1,0,[],0,True⟩ w')
  (hok:∀ g k,look h1 g=some k→∀ v∈k.cells,okV (fun l=>Nat.blt l n') d v=true) (sZ:St) (hZn:sZ.n=s.n+(n'-n))
  (hZh:∀ g k,look sZ.h g=some k→look (rnH (Sy.lift n s.n ρ) d h1) g=some k∨(look s.h g=some k∧∀ g0 k0,look h0 g0=some k0→k0.rw=true→Sy.lift n s.n ρ g0≠g))
  (hZl:∀ x∈sZ.lo,x∈s.lo∨∃ y∈lo1,x=(Sy.lift n s.n ρ y.1,y.2)) :
  To r s w (r.lift r3 n n' s.n) sZ w'∧∀ v,okV (fun l=>Nat.blt l n') d v=true→bnd r3.d v=true→(r.lift r3 n n' s.n).val (rnV (Sy.lift n s.n ρ) d v)=r3.val v∧bnd (r.lift r3 n n' s.n).d (rnV (Sy.lift n s.n ρ) d v)=true:=by
 have hσ:=Zhh (n:=n) (N:=s.n) (ρ:=ρ)
 have E:=ZFs (ρ:=ρ) hNG hn hfr T.dom T.ext
 have L:=Zp5 r r3 n n' s.n
 have hval:∀ v,okV (fun l=>Nat.blt l n') d v=true→bnd r3.d v=true→(r.lift r3 n n' s.n).val (rnV (Sy.lift n s.n ρ) d v)=r3.val v∧bnd (r.lift r3 n n' s.n).d (rnV (Sy.lift n s.n ρ) d v)=true:=by
  intro v h1 h2
  refine⟨?_,ZFr hσ d v h1 (VV E.d v h2)⟩
  rw[Ze0 hσ d v h1,Zad E v h2]
 -- the small states under the letters of the many
 have hin:∀ g k,look (rnH (Sy.lift n s.n ρ) d h0) g=some k→∃ k',look s.h g=some k'∧(k.op=k'.op∨(k.rw=false∧k.op=some (0,0)∧k.it=none))∧k.cells=k'.cells∧k.it=k'.it∧(k.rw=true→k'.rw=true):=by
  intro g k hk
  obtain⟨g0,k0,q1,rfl,rfl⟩:=Ja hk
  obtain⟨_,_,_,k1,q2,q3,q4,q5,q6⟩:=hS.heap g0 k0 q1
  refine⟨k1,q2,?_,q6.symm,q5.symm,q3⟩
  rcases q4 with q4|⟨q4,q4',q4''⟩
  ·exact .inl q4.symm
  ·refine .inr ⟨q4,?_,q4''⟩
   simp only[rnB,q4',Option.map_some]
   rw[hσ 0 (by decide)]
 have hb3:∀ g k,look h1 g=some k→(r.lift r3 n n' s.n).b (Sy.lift n s.n ρ g)=r3.b g∧(r.lift r3 n n' s.n).w (Sy.lift n s.n ρ g)=r3.w g∧(r.lift r3 n n' s.n).d (Sy.lift n s.n ρ g)=true:=by
  intro g k hk
  have hd:=(T.good.lt g k hk).1
  refine⟨?_,?_,ZBr hσ (E.d g hd)⟩
  ·rw[← E.b g hd,ZrD hσ]
  ·rw[← E.w g hd,ZAj hσ]
 have hc3:∀ l,r3.d l=true→(r.lift r3 n n' s.n).c (Sy.lift n s.n ρ l)=r3.c l∧(r.lift r3 n n' s.n).d (Sy.lift n s.n ρ l)=true:=by
  intro l hl
  exact⟨E.c l hl,ZBr hσ (E.d l hl)⟩
 have hsm:∀ g0 k0,look h0 g0=some k0→look (rnH (Sy.lift n s.n ρ) d h0) (Sy.lift n s.n ρ g0)≠none:=by
  intro g0 k0 hk
  have:∀ (h:Heap),look h g0=some k0→look (rnH (Sy.lift n s.n ρ) d h) (Sy.lift n s.n ρ g0)≠none:=by
   intro h
   induction h with
   | nil=>intro e; cases e
   | cons x h ih =>
    intro e
    unfold rnH
    rw[List.map_cons,Qs]
    split
    ·simp
    ·rename_i hne
     rw[Qs] at e
     split at e
     ·rename_i e'; subst e'; exact absurd rfl hne
     ·exact ih e
  exact this h0 hk
 have hsm2:∀ g0 k0,look h0 g0=some k0→∃ k,look (rnH (Sy.lift n s.n ρ) d h0) (Sy.lift n s.n ρ g0)=some k∧k.rw=k0.rw:=by
  intro g0 k0 hk
  cases he:look (rnH (Sy.lift n s.n ρ) d h0) (Sy.lift n s.n ρ g0) with
  | none=>exact absurd he (hsm g0 k0 hk)
  | some k =>
   obtain⟨g1,k1,q1,q2,rfl⟩:=Ja he
   have:g0=g1:=hS.inj g0 g1 k0 k1 hk q1 q2
   subst this
   rw[hk] at q1
   cases q1
   exact⟨_,rfl,rfl⟩
 have hb0:∀ g0 k0,look h0 g0=some k0→(r.by (Sy.lift n s.n ρ) (fun l=>Nat.blt l n)).b g0=r.b (Sy.lift n s.n ρ g0):=fun g0 k0 _=>by rw[ZrD hσ]
 have T':To r { s with h:=rnH (Sy.lift n s.n ρ) d h0 } w (r.lift r3 n n' s.n) ⟨s.n+(n'-n),rnH (Sy.lift n s.n ρ) d h1,lo1.map fun y=>(Sy.lift n s.n ρ y.1,y.2),0,[],0,True⟩ w':=by
  refine⟨L,fun g h => ?_,by show s.n≤s.n+(n'-n); omega,hg.sub' hin (fun _ h=>h),⟨fun g k hk => ?_,fun g g' k k' e1 e2 hrw e3 => ?_,fun g k hk => ?_,fun x hx => ?_⟩,T.os,T.tape,T.output,T.size,fun b hb hnb => ?_,fun g k hk => ?_⟩
  ·simp only[Ren.lift,Bool.or_eq_true,Bool.and_eq_true,Nat.blt_eq] at h
   rcases h with h|h
   ·exact .inl h
   ·exact .inr ⟨Nat.le_of_ble_eq_true h.1.1,h.1.2⟩
  ·obtain⟨g0,k0,q1,rfl,rfl⟩:=Ja hk
   obtain⟨b1,b2,_⟩:=hb3 g0 k0 q1
   obtain⟨l1,l2,l3⟩:=T.good.lt g0 k0 q1
   rcases T.good.is g0 k0 q1 with⟨hi,arr,ty,fr,c1,c2,c3,c4⟩|⟨x,c1,c2,c3,c4,c5⟩
   ·refine .inl ⟨hi,arr,ty,fr,by rw[b1]; exact c1,?_,fun j v hj => ?_,c4⟩
    ·rw[b2]
     cases hop:k0.op with
     | none=>rw[hop] at c2; simp only[rnB,hop,Option.map_none,List.length_map]; exact c2
     | some q =>
      rw[hop] at c2
      simp only[rnB,hop,Option.map_some,List.length_map]
      rw[(hc3 q.1 (l2 q hop)).1]; exact c2
    ·simp only[rnB,List.getElem?_map,Option.map_eq_some_iff] at hj
     obtain⟨u,hu,rfl⟩:=hj
     have hm:=List.mem_of_getElem? hu
     rw[b2,(hval u (hok g0 k0 q1 u hm) (l3 u hm).1).1]
     exact c3 j u hu
   ·exact .inr ⟨x,c1,by rw[b1]; exact c2,by simp only[rnB,c3,List.map_nil],by simp only[rnB,c4,Option.map_none],by rw[b2]; exact c5⟩
  ·obtain⟨g0,k0,q1,rfl,rfl⟩:=Ja e1
   obtain⟨g0',k0',q1',rfl,rfl⟩:=Ja e2
   rw[(hb3 g0 k0 q1).1,(hb3 g0' k0' q1').1] at e3
   rw[T.good.inj g0 g0' k0 k0' q1 q1' hrw e3]
  ·obtain⟨g0,k0,q1,rfl,rfl⟩:=Ja hk
   obtain⟨l1,l2,l3⟩:=T.good.lt g0 k0 q1
   refine⟨(hb3 g0 k0 q1).2.2,fun q hq => ?_,fun v hv => ?_⟩
   ·simp only[rnB,Option.map_eq_some_iff] at hq
    obtain⟨q0,hq0,rfl⟩:=hq
    exact(hc3 q0.1 (l2 q0 hq0)).2
   ·simp only[rnB,List.mem_map] at hv
    obtain⟨u,hu,rfl⟩:=hv
    exact⟨(hval u (hok g0 k0 q1 u hu) (l3 u hu).1).2,by rw[ZkA]; exact(l3 u hu).2⟩
  ·obtain⟨y,hy,rfl⟩:=List.mem_map.1 hx
   have:=T.good.lo y hy
   obtain⟨c1,c2⟩:=hc3 y.1 this.2
   exact⟨by show y.2≤(r.lift r3 n n' s.n).c (Sy.lift n s.n ρ y.1); rw[c1]; exact this.1,c2⟩
  ·refine T.frame b hb fun g0 k0 hk0 hrw e => ?_
   obtain⟨k,q1,q2⟩:=hsm2 g0 k0 hk0
   exact hnb _ k q1 (by rw[q2]; exact hrw) (by rw[← hb0 g0 k0 hk0]; exact e)
  ·obtain⟨g0,k0,q1,rfl,rfl⟩:=Ja hk
   rw[(hb3 g0 k0 q1).1]
   rcases T.own g0 k0 q1 with⟨k1,q2,q3⟩|q2|⟨g1,k1,q2,q3,q4⟩
   ·obtain⟨k2,q4,q5⟩:=hsm2 g0 k1 q2
    exact .inl ⟨k2,q4,fun h=>by rw[q5]; exact q3 h⟩
   ·exact .inr (.inl q2)
   ·obtain⟨k2,q5,q6⟩:=hsm2 g1 k1 q2
    exact .inr (.inr ⟨_,k2,q5,by rw[q6]; exact q3,by rw[← hb0 g1 k1 q2]; exact q4⟩)
 refine⟨ZlG (To.refl hg) T' (fun g k hk=>let ⟨k',q1,_,_,_,q2⟩:=hin g k hk; ⟨k',q1,q2⟩) (fun g k hk => ?_) (fun x hx => ?_) (Nat.le_refl _) (by show s.n+(n'-n)≤sZ.n; omega) (by omega),hval⟩
 ·rcases hZh g k hk with h|⟨h,h2⟩
  ·exact .inl h
  ·refine .inr ⟨h,fun k' hk' => ?_⟩
   obtain⟨g0,k0,q1,rfl,rfl⟩:=Ja hk'
   cases hrw:k0.rw
   ·exact hrw
   ·exact absurd rfl (h2 g0 k0 q1 hrw)
 ·rcases hZl x hx with h|⟨y,hy,rfl⟩
  ·exact .inr h
  ·exact .inl (List.mem_map_of_mem hy)
end
structure Con where
 args:List Value
 n:Nat
 h:Heap
 lo:List (Nat×Nat)
 res:Value
 n':Nat
 h':Heap
 lo':List (Nat×Nat)
def Con.s0 (c:Con):St:=⟨c.n,c.h,c.lo,0,[],0,True⟩
def Con.s1 (c:Con):St:=⟨c.n',c.h',c.lo',0,[],0,True⟩
structure ConOk (P:Program) (f:FuncId) (d:Nat) (c:Con):Prop where
 enters:ZcY P f
 calls:ZeZ P f c.args c.s0 c.res c.s1
 ng:NG≤c.n
 le:c.n≤c.n'
 wf0:WFn c.s0
 wf1:WFn c.s1
 args:∀ v∈c.args,okV (fun l=>Nat.blt l c.n) d v=true
 res:okV (fun l=>Nat.blt l c.n') d c.res=true
 ok:∀ g k,look c.h' g=some k→∀ v∈k.cells,okV (fun l=>Nat.blt l c.n') d v=true
def Zna (σ:Nat→Nat) (d:Nat):List Value→List Value→Prop
 | [],[]=>True
 | a::x,b::y=>a=rnV σ d b∧Zna σ d x y
 | _,_=>False
theorem ZlM {σ:Nat→Nat} {d:Nat}:∀ {x y:List Value},Zna σ d x y→x=y.map (rnV σ d)
 | [],[],_=>rfl
 | a::x,b::y,h=>by rw[List.map_cons,← h.1,← ZlM h.2]
 | [],_::_,h=>h.elim
 | _::_,[],h=>h.elim
def Con.use (q:Prop) (d:Nat) (c:Con) (ρ:List Nat) (args:List Value) (s:St):Res :=
 bif (c.h'.all fun x=>Nat.blt (lift c.n s.n ρ x.1) (s.n+(c.n'-c.n)))&&(c.lo'.all fun x=>Nat.blt (lift c.n s.n ρ x.1) (s.n+(c.n'-c.n)))&&Ztr (lift c.n s.n ρ) c.h then
  some (rnV (lift c.n s.n ρ) d c.res,
   {n:=s.n+(c.n'-c.n),
    h:=rnH (lift c.n s.n ρ) d c.h'++s.h.filter (fun x => !(c.h.any fun y=>y.2.rw&&Nat.beq (lift c.n s.n ρ y.1) x.1)),
    lo:=(c.lo'.map fun y=>(lift c.n s.n ρ y.1,y.2))++s.lo,
    esc:=s.esc,T:=s.T,k:=s.k,
    O:=s.O∧q∧Zna (lift c.n s.n ρ) d args c.args∧Vr d (fun l=>Nat.blt l c.n) (lift c.n s.n ρ) s.h c.h∧ZbK (fun l=>Nat.blt l c.n) (lift c.n s.n ρ) s.lo c.lo })
 else none
theorem Con.use_ok {P:Program} {f:FuncId} {d:Nat} {c:Con} {q:Prop} (hc:q→ConOk P f d c) {ρ:List Nat} {args:List Value} {s s':St} {v:Value} (h:c.use q d ρ args s=some (v,s')) :
  WX s s'∧(s'.O→ZcY P f∧ZeZ P f args s v s'):=by
 unfold Con.use at h
 obtain⟨hb,h⟩:=Qy h
 simp only[Option.some.injEq,Prod.mk.injEq] at h
 obtain⟨rfl,rfl⟩:=h
 simp only[Bool.and_eq_true] at hb
 obtain⟨⟨hb1,hb2⟩,hb3⟩:=hb
 refine⟨⟨Nat.le_add_right _ _,fun h=>h.1,fun hw=>⟨fun g k hk => ?_,fun x hx => ?_⟩⟩,?_⟩
 ·simp only[] at hk ⊢
  rw[XO] at hk
  have hfil:look (s.h.filter (fun x => !(c.h.any fun y=>y.2.rw&&Nat.beq (lift c.n s.n ρ y.1) x.1))) g=some k→g<s.n+(c.n'-c.n):=fun h=>by
   rw[YJ (fun x => !(c.h.any fun y=>y.2.rw&&Nat.beq (lift c.n s.n ρ y.1) x))] at h
   split at h
   ·have:=hw.1 g k h; omega
   ·cases h
  cases he:look (rnH (lift c.n s.n ρ) d c.h') g with
  | none=>rw[he] at hk; exact hfil (by simpa using hk)
  | some k1 =>
   obtain⟨g0,k0,q1,rfl,_⟩:=Ja he
   simpa using List.all_eq_true.1 hb1 _ (Qb q1)
 ·simp only[List.mem_append] at hx ⊢
  rcases hx with hx|hx
  ·obtain⟨y,hy,rfl⟩:=List.mem_map.1 hx
   simpa using List.all_eq_true.1 hb2 y hy
  ·have:=hw.2 x hx; omega
 ·rintro⟨_,q0,q1,q2,q3⟩
  have hc:=hc q0
  refine⟨hc.enters,fun r w hwf hg hfr hbd => ?_⟩
  have hσ:=Zhh (n:=c.n) (N:=s.n) (ρ:=ρ)
  have hS:SeenS d (fun l=>Nat.blt l c.n) (lift c.n s.n ρ) s c.s0 :=
   ⟨fun g k hk=>q2.mem _ (Qb hk),fun g g' k k' e1 e2 e=>ZdD hb3 _ (Qb e1) _ (Qb e2) e,fun x hx=>q3.mem x hx⟩
  have ha:=ZlM q1
  have hargs:args.map r.val=c.args.map (r.by (lift c.n s.n ρ) (fun l=>Nat.blt l c.n)).val:=by
   rw[ha,List.map_map]
   apply List.map_congr_left
   intro v hv
   exact Ze0 hσ d v (hc.args v hv)
  rw[hargs]
  have hfr0:WL (r.by (lift c.n s.n ρ) (fun l=>Nat.blt l c.n)) c.n c.n':=fun l hl _=>by
   have h1:Nat.blt l NG=false:=by
    cases h:Nat.blt l NG
    ·rfl
    ·have:=hc.ng; simp at h; omega
   have h2:Nat.blt l c.n=false:=by
    cases h:Nat.blt l c.n
    ·rfl
    ·simp at h; omega
   show(Nat.blt l NG||(Nat.blt l c.n&&r.d (lift c.n s.n ρ l)))=false
   rw[h1,h2]; rfl
  refine(hc.calls (r.by (lift c.n s.n ρ) (fun l=>Nat.blt l c.n)) w hc.wf0 (hS.good hσ hg) hfr0 fun u hu=>ZiZ d u (hc.args u hu) (hbd _ (by rw[ha]; exact List.mem_map_of_mem hu))).mono ?_
  rintro e w' ⟨r3,rfl,T,hb⟩
  obtain⟨T',hv⟩:=To.lift (d:=d) (ρ:=ρ) (n:=c.n) (n':=c.n') (h0:=c.h) (h1:=c.h') (lo0:=c.lo) (lo1:=c.lo') hg hfr hc.ng hc.le hS T hc.ok
   {n:=s.n+(c.n'-c.n),h:=rnH (lift c.n s.n ρ) d c.h'++s.h.filter (fun x => !(c.h.any fun y=>y.2.rw&&Nat.beq (lift c.n s.n ρ y.1) x.1)),lo:=(c.lo'.map fun y=>(lift c.n s.n ρ y.1,y.2))++s.lo,esc:=s.esc,T:=s.T,k:=s.k,O:=s.O∧q∧Zna (lift c.n s.n ρ) d args c.args∧Vr d (fun l=>Nat.blt l c.n) (lift c.n s.n ρ) s.h c.h∧ZbK (fun l=>Nat.blt l c.n) (lift c.n s.n ρ) s.lo c.lo }
   rfl (fun g k hk=>by
    simp only[] at hk
    rw[XO] at hk
    cases he:look (rnH (lift c.n s.n ρ) d c.h') g with
    | some k1=>rw[he] at hk; exact .inl (by simpa using hk)
    | none =>
     rw[he] at hk
     simp only[Option.none_or] at hk
     rw[YJ (fun x => !(c.h.any fun y=>y.2.rw&&Nat.beq (lift c.n s.n ρ y.1) x))] at hk
     split at hk
     ·rename_i hp
      refine .inr ⟨hk,fun g0 k0 hk0 hrw e => ?_⟩
      simp only[Bool.not_eq_true',List.any_eq_false] at hp
      have:=hp _ (Qb hk0)
      simp[hrw,e] at this
     ·cases hk) (fun x hx=>by
    simp only[List.mem_append] at hx
    rcases hx with hx|hx
    ·obtain⟨y,hy,rfl⟩:=List.mem_map.1 hx
     exact .inr ⟨y,hy,rfl⟩
    ·exact .inl hx)
  obtain⟨v1,v2⟩:=hv c.res hc.res hb
  exact⟨_,by rw[v1],T',v2⟩
end Go.Proofs.YtagacmljbgkmoaaGreatDoor.Sy
namespace Go.Proofs.YtagacmljbgkmoaaGreatDoor.Sy
open Go.IntKind (u8 u16 u32 u64 i64)
open Go.RowKit
section
variable {P:Program} {call:QM} {f:FuncId} {d:Nat}
structure Con.Ends (d:Nat) (p:Nat→Bool) (σ:Nat→Nat) (c:Con) (v:Value) (s':St):Prop where
 σ0:∀ l,l<NG→σ l=l
 h:Vr d p σ s'.h c.h'
 inj:Ztr σ c.h'=true
 lo:ZbK p σ s'.lo c.lo'
 v:okV p d c.res=true∧v=rnV σ d c.res
 known:isU c.res=false
 keepH:OkH (XP c.n c.n' σ p) c.h'
 keepL:c.lo'.all (fun x=>XP c.n c.n' σ p x.1)=true
 keepV:bnd (XP c.n c.n' σ p) c.res=true
 ro:∀ x∈c.h',x.2.rw=false→σ x.1=x.1∨look c.h (σ x.1)=none
structure Con.Wf (d:Nat) (c:Con):Prop where
 ng:NG≤c.n
 le:c.n≤c.n'
 h:OkH (fun l=>Nat.blt l c.n) c.h
 lo:c.lo.all (fun x=>Nat.blt x.1 c.n)=true
 h':c.h'.all (fun x=>Nat.blt x.1 c.n')=true
 lo':c.lo'.all (fun x=>Nat.blt x.1 c.n')=true
 args:c.args.all (okV (fun l=>Nat.blt l c.n) d)=true
 res:okV (fun l=>Nat.blt l c.n') d c.res=true
 ok:∀ x∈c.h',∀ v∈x.2.cells,okV (fun l=>Nat.blt l c.n') d v=true
theorem Con.Wf.wf0 {c:Con} (h:c.Wf d):WFn c.s0 :=
 ⟨fun g k hk=>by have:=(h.h.mem _ (Qb hk)).1; show g<c.n; simpa using this,fun x hx=>by have:=List.all_eq_true.1 h.lo x hx; show x.1<c.n; simpa using this⟩
theorem Con.Wf.wf1 {c:Con} (h:c.Wf d):WFn c.s1 :=
 ⟨fun g k hk=>by have:=List.all_eq_true.1 h.h' _ (Qb hk); show g<c.n'; simpa using this,fun x hx=>by have:=List.all_eq_true.1 h.lo' x hx; show x.1<c.n'; simpa using this⟩
theorem Qn (hcall:Zs P call) {c:Con} (hw:c.Wf d) {T:List (Nat×Bool)} {v:Value} {s':St} (h:call f c.args { c.s0 with T:=T }=some (v,s')) (hO:s'.O) {p:Nat→Bool} {σ:Nat→Nat} (he:c.Ends d p σ v s'):ConOk P f d c:=by
 obtain⟨_,h2⟩:=hcall f c.args _ v s' h
 obtain⟨h3,h4⟩:=h2 hO
 refine⟨h3,fun r w hwf hg hfr hb => ?_,hw.ng,hw.le,hw.wf0,hw.wf1,fun u hu=>List.all_eq_true.1 hw.args u hu,hw.res,fun g k hk=>hw.ok _ (Qb hk)⟩
 have hok:OkS (fun l=>Nat.blt l c.n) c.s0:=⟨fun g k hk=>hw.h.mem _ (Qb hk),fun x hx=>List.all_eq_true.1 hw.lo x hx⟩
 have hgl:Good (r.low c.n) { c.s0 with T:=T } w:=(hg.low hok).same rfl rfl
 have hwf':WFn { c.s0 with T:=T }:=hwf
 have hbl:∀ u∈c.args,bnd (r.low c.n).d u=true:=fun u hu=>ZoM (hb u hu) (Q5 d u (List.all_eq_true.1 hw.args u hu))
 have h5:=h4 (r.low c.n) w hwf' hgl (Zgp hw.ng) hbl
 rw[ZoL] at h5
 refine h5.mono ?_
 rintro e w' ⟨r1,rfl,T1,hb1⟩
 have T1':To (r.low c.n) c.s0 w r1 s' w':=T1.start rfl rfl rfl
 have hS:SeenS d p σ s' c.s1:=⟨fun g k hk=>he.h.mem _ (Qb hk),fun g g' k k' q1 q2 e=>ZdD he.inj _ (Qb q1) _ (Qb q2) e,fun x hx=>he.lo.mem x hx⟩
 have hq:OkS (XP c.n c.n' σ p) c.s1:=⟨fun g k hk=>he.keepH.mem _ (Qb hk),fun x hx=>List.all_eq_true.1 he.keepL x hx⟩
 obtain⟨T3,hv⟩:=T1'.behind hg hw.ng he.σ0 hS (To.refl (hS.good he.σ0 T1.good)) hw.le hfr hq (fun g k hk=>he.ro _ (Qb hk))
 have hT:=hv c.res (r1.val v) he.keepV (.inr ⟨by rw[he.v.2,Ze0 he.σ0 d _ he.v.1],ZiZ d _ he.v.1 (by rw[← he.v.2]; exact hb1)⟩)
 obtain⟨e1,e2⟩:=hT.resolve_left (by rw[he.known]; simp)
 exact⟨_,by rw[e1],T3,e2⟩
abbrev Znb:=FuncId→List Value→St→Option (Con×List Nat×Prop)
def Zbn (d:Nat) (sel:Znb):QM:=fun f args s=>(sel f args s).bind fun x=>x.1.use x.2.2 d x.2.1 args s
def Zi5 (P:Program) (d:Nat) (sel:Znb):Prop:=∀ f args s c ρ q,sel f args s=some (c,ρ,q)→q→ConOk P f d c
theorem JY {sel:Znb} (h:Zi5 P d sel):Zs P (Zbn d sel):=by
 intro f args s v s' hc
 unfold Zbn at hc
 replace hc:=oB hc
 obtain⟨⟨c,ρ,q⟩,h1,h2⟩:=hc
 exact Con.use_ok (h f args s c ρ q h1) h2
def Con.pure (args:List Value) (v:Value):Con:=⟨args,NG,[],[],v,NG,[],[]⟩
theorem Q8 {p:Nat→Bool} {v:Value} (h:XD v=true):∀ d,okV p (d+2) v=true:=by
 intro d
 have h1:∀ u,Uv u=true→okV p (d+1) u=true:=by
  intro u hu
  unfold Uv at hu
  split at hu
  ·rename_i cs
   show cs.toList.all (okV p d)=true
   exact List.all_eq_true.2 fun x hx=>Yy (List.all_eq_true.1 hu x hx) d
  ·exact Yy hu _
 unfold XD at h
 split at h
 ·rename_i cs
  show cs.toList.all (okV p (d+1))=true
  exact List.all_eq_true.2 fun x hx=>h1 x (List.all_eq_true.1 h x hx)
 ·have:=h1 v h
  unfold Uv at h
  split at h
  ·rename_i cs _
   show cs.toList.all (okV p (d+1))=true
   exact List.all_eq_true.2 fun x hx=>Yy (List.all_eq_true.1 h x hx) _
  ·exact Yy h _
theorem Good.below {r:Ren} {s:St} {w w':World} (hg:Good r s w) (hb:Below w.heap.size w w'):Good r s w' :=
 ⟨fun g k hk=>(hg.is g k hk).heap (hb.block _ (hg.is g k hk).lt),hg.inj,hg.lt,hg.lo⟩
theorem QE {args:List Value} {v:Value} (he:ZcY P f) (ha:∀ u∈args,XD u=true) (hv:XD v=true) (h:∀ w,Calls P f args.toArray w fun e w'=>e = .returned v∧Below w.heap.size w w'):ConOk P f (d+2) (Con.pure args v):=by
 refine⟨he,fun r w _ hg _ _ => ?_,Nat.le_refl _,Nat.le_refl _,⟨fun g k h=>(by cases h),fun x h=>(by cases h)⟩,⟨fun g k h=>(by cases h),fun x h=>(by cases h)⟩,fun u hu=>Q8 (ha u hu) d,Q8 hv d,fun g k h=>(by cases h)⟩
 have hm:(Con.pure args v).args.map r.val=args:=by
  show args.map r.val=args
  rw[List.map_congr_left (g:=id)]
  ·simp
  ·intro u hu; exact Ki _ (ha u hu)
 rw[hm]
 refine(h w).mono ?_
 rintro e w' ⟨rfl,hb⟩
 refine⟨r,by show _=Ending.returned (r.val v); rw[Ki _ hv],⟨Ext.refl _,fun _ h => .inl h,Nat.le_refl _,hg,hg.below hb,hb.os,hb.tape,hb.output,hb.size,fun b h _=>hb.block b h,fun _ k hk => .inl ⟨k,hk,id⟩⟩,Xk _ hv⟩
def obs (x:Res):Option (Value×Prop):=x.map fun p=>(p.1,p.2.O)
def stT (T:List (Nat×Bool)):St:=⟨NG,[],[],0,T,0,True⟩
theorem Qj (hcall:Zs P call) {args:List Value} {T:List (Nat×Bool)} {v:Value} {q:Prop} (h:obs (call f args (stT T))=some (v,q)) (hq:q) (ha:args.all XD=true) (hv:XD v=true):ConOk P f (d+2) (Con.pure args v):=by
 unfold obs at h
 obtain⟨⟨v',s'⟩,h1,h2⟩:=oM h
 cases h2
 obtain⟨_,h3⟩:=hcall f args _ _ _ h1
 obtain⟨h4,h5⟩:=h3 hq
 have ha':∀ u∈args,XD u=true:=fun u hu=>List.all_eq_true.1 ha u hu
 refine QE h4 ha' hv fun w => ?_
 have hm:args.map Ztk.val=args:=by
  rw[List.map_congr_left (g:=id)]
  ·simp
  ·intro u hu; exact Ki _ (ha' u hu)
 have h6:=h5 Ztk w ⟨fun g k h=>(by cases h),fun x h=>(by cases h)⟩ ⟨fun g k h=>(by cases h),fun g g' k k' h=>(by cases h),fun g k h=>(by cases h),fun x h=>(by cases h)⟩ (ZAi (Nat.le_refl _)) fun u hu=>Xk _ (ha' u hu)
 rw[hm] at h6
 refine h6.mono ?_
 rintro e w' ⟨r',rfl,h7,_⟩
 exact⟨by rw[Ki _ hv],h7.below fun g k hk=>by cases hk⟩
end
end Go.Proofs.YtagacmljbgkmoaaGreatDoor.Sy
namespace Go.Proofs.YtagacmljbgkmoaaGreatDoor.Sy
open Go.IntKind (u8 u16 u32 u64 i64)
open Go.RowKit
def ZcB (xs:List Nat):List Value:=xs.map fun(x:Nat)=>Value.int .u32 (x:Int)
def u8s (xs:List UInt8):List Value:=xs.map fun(x:UInt8)=>Value.int .u8 (x.toNat:Int)
theorem ZlN {c:Bool} {p:Prop} (h:c=true) (hp:p):(bif c then p else False):=by subst h; exact hp
theorem JZ {α:Type} (f:α→Value) (d:Value) (e:α):∀ (l:List α) (i:Nat),Zt d (l.map f) i=if i<l.length then f (l.getD i e) else d
 | [],i=>by rw[if_neg (by simp)]; exact Zlo d i
 | x::l,0=>by rw[if_pos (by simp)]; rfl
 | x::l,i+1=>by
  have:=JZ f d e l i
  simp only[List.map_cons,Zt,List.length_cons,Nat.add_lt_add_iff_right,List.getD_cons_succ]
  exact this
theorem Zts (xs:List Nat) (i:Nat) (b:Int):Zz [.int .u32 b] (ZcB xs) i=decide (i<xs.length):=by
 unfold ZcB
 simp only[Zz,JZ _ _ 0,Bool.and_true]
 by_cases h:i<xs.length
 ·simp[h,ZmM]
 ·simp[h]; rfl
theorem ZwK (xs:List Nat) (n:Nat):WK n (ZcB xs)=decide (n≤xs.length):=by
 rw[Bool.eq_iff_iff,Vx]; simp[ZcB]
theorem ZY {q:Nat→Bool} {l:List Value} (h:∀ v∈l,Qm v=true):∀ v∈l,bnd q v=true:=fun v hv=>ZG q (h v hv)
theorem ZBx {p:Nat→Bool} {d:Nat} {l:List Value} (h:∀ v∈l,Qm v=true):∀ v∈l,okV p d v=true:=fun v hv=>Yy (h v hv) d
theorem ZE {p:Nat→Bool} {d:Nat} {l:List Value} (h:∀ v∈l,Qm v=true):l.all (okV p d)=true:=List.all_eq_true.2 (ZBx h)
theorem ZwL {σ:Nat→Nat} {v:Value} (h:Qm v=true):∀ d,rnV σ d v=v:=by
 intro d
 have hs:∀ (c:Nat),Nat.blt c big=true→rnC σ c=c:=fun c hc=>by unfold rnC; rw[hc]; rfl
 cases d<;>cases v<;>first
  | rfl
  | (rename_i a; cases a<;>first|rfl|(simp[Qm] at h; done))
  | (rename_i a _ _; cases a<;>first|(simp[Qm] at h; done)|(simp only[rnV,Option.map_none]; rw[hs _ h]))
  | (simp[Qm] at h; done)
theorem ZP {σ:Nat→Nat} {d:Nat} {l:List Value} (h:∀ v∈l,Qm v=true):l.map (rnV σ d)=l:=by
 rw[List.map_congr_left (g:=id)]
 ·simp
 ·intro v hv; exact ZwL (h v hv) d
theorem Z4 (xs:List Nat):∀ v∈ZcB xs,Qm v=true:=fun v hv=>by
 obtain⟨b,_,rfl⟩:=List.mem_map.1 hv; rfl
theorem wrap_i64 {x:Int} (h : -9223372036854775808≤x) (h':x<9223372036854775808):i64.wrap x=x:=IntWalk.i64_in _ (by omega)
theorem ZBy (b c:Nat):(bif Nat.blt c b then c else b+id (c-b))=c:=by
 cases h:Nat.blt c b
 ·have:¬ c<b:=fun hc=>by rw[(Nat.blt_eq).mpr hc] at h; cases h
  rw[cond_false]
  exact Nat.add_sub_of_le (Nat.le_of_not_lt this)
 ·rw[cond_true]
theorem ZFt (c:Nat):rnC id c=c:=ZBy big c
theorem JB:∀ (d:Nat) (v:Value),rnV id d v=v:=by
 have hA:∀ a,rnA id a=a:=fun a=>by cases a; simp[rnA]
 have hC:∀ c,rnC id c=c:=ZFt
 have hO:∀ a:Option Addr,a.map (rnA id)=a:=fun a=>by cases a<;>simp[hA]
 intro d
 induction d with
 | zero=>intro v; cases v<;>simp[rnV,hO,hC]
 | succ d ih =>
  have hl:∀ cs:Array Value,(⟨cs.toList.map (rnV id d)⟩:Array Value)=cs:=fun cs=>by
   apply Array.ext'
   have:rnV id d=id:=funext ih
   simp[this]
  intro v; cases v<;>simp only[rnV,hO,hC,hl,ih]
def ZoN (P:Program) (f:FuncId):Bool:=match (P.funcs[f]?).bind (·.body) with|some _=>true|none=>false
theorem Q9 {P:Program} {f:FuncId} (hn:ZfH P=true) (h:ZoN P f=true):ZcY P f:=by
 unfold ZoN at h
 cases hf:P.funcs[f]? with
 | none=>rw[hf] at h; cases h
 | some fn =>
  rw[hf] at h
  simp only[Option.bind_some] at h
  cases hb:fn.body with
  | none=>rw[hb] at h; cases h
  | some c=>exact Zm0 hn hf hb
def ZoO (P:Program) (f:FuncId) (i n0:Nat) (a:Sf) (x:Exit) (b:Sf) (o1:Zm7 ((Wa (KN P f)).map ZmG)=true) (o2:Nat.blt i (Yf (Wa (KN P f)))=true) (ok:Vh P n0 (Qe P f i) (a.fr n0) x (b.fr n0)):Ent P :=
 ⟨f,i,fun nt _=>bif Nat.beq nt n0 then some (a,x,b,True) else none,o1,o2,fun nt _ a' x' b' q h _=>by
  obtain⟨h1,h2⟩:=Qy h
  have h3:=eB h1
  cases h2
  rw[h3]; exact ok⟩
theorem Xb (P:Program) (S:List Code) (f:FuncId):Wg P S (Zb f):=fun _ _ _ _ _ h=>by cases h
theorem Sf.Ok.mk' {q:Nat→Bool} {f:Sf} (d:Nat) (h:OkH q f.h) (lo:f.lo.all (fun x=>q x.1)=true) (e:∀ x∈f.e,okV q d x.2=true):f.Ok q:=⟨h,lo,fun x hx=>Q5 d _ (e x hx)⟩
theorem QD {l n:Nat} (h:n≤l):Nat.blt l n=false:=by
 cases hb:Nat.blt l n
 ·rfl
 ·simp at hb; omega
theorem QV (k:Nat) (h:k<9000000000000000000):i64.wrap ((k:Int)+1)=((k+1:Nat):Int):=by rw[wrap_i64 (by omega) (by omega)]; omega
end Go.Proofs.YtagacmljbgkmoaaGreatDoor.Sy
namespace Go.Proofs.YtagacmljbgkmoaaGreatDoor.Sy
open Go.IntKind (u8 u16 u32 u64 i64)
open Go.RowKit
theorem ConOk.drop {P:Program} {f:FuncId} {d:Nat} {c:Con} (h:ConOk P f d c):ConOk P f d { c with h':=[] }:=by
 refine⟨h.enters,fun r w h1 h2 h3 h4=>(h.calls r w h1 h2 h3 h4).mono ?_,h.ng,h.le,h.wf0,⟨fun g k hk=>(by cases hk),h.wf1.2⟩,h.args,h.res,fun g k hk=>(by cases hk)⟩
 rintro e w' ⟨r',he,T,hb⟩
 exact⟨r',he,⟨T.ext,T.dom,T.le,T.good0,⟨fun g k hk=>(by cases hk),fun g g' k k' hk=>(by cases hk),fun g k hk=>(by cases hk),T.good.lo⟩,T.os,T.tape,T.output,T.size,T.frame,fun g k hk=>(by cases hk)⟩,hb⟩
theorem YW {l n:Nat} (h:l<n):Nat.blt l n=true:=(Nat.blt_eq).mpr h
theorem Ztt {P:Program} {call:QM} (hcall:Zs P call) {f:FuncId} {args:List Value} {s:St} {q:Prop} (h:obs (call f args s)=some (.bool true,q)) (hO:q) (hwf:WFn s) (hro:s.h.all (fun y => !y.2.rw)=true)
  {r:Ren} {w:World} (hg:Good r s w) (hfr:∀ l,s.n≤l→r.d l=false) (hb:∀ u∈args,bnd r.d u=true) :
  Calls P f (args.map r.val).toArray w fun e w'=>e = .returned (.bool true)∧Below w.heap.size w w':=by
 unfold obs at h
 obtain⟨⟨v',s'⟩,h1,h2⟩:=oM h
 cases h2
 obtain⟨_,h2⟩:=hcall f args s _ s' h1
 obtain⟨_,h4⟩:=h2 hO
 refine(h4 r w hwf hg (fun l hl _=>hfr l hl) hb).mono ?_
 rintro e w' ⟨r',rfl,T,_⟩
 exact⟨by rw[K5],T.below fun g k hk=>by
  have:=List.all_eq_true.1 hro _ (Qb hk)
  simpa using this⟩
theorem Znc {p:Nat→Bool} {σ:Nat→Nat} (hσ:∀ l,p l=true→σ l=l):∀ (d:Nat) (v:Value),okV p d v=true→rnV σ d v=v:=by
 have hA:∀ a,Ut p a=true→rnA σ a=a:=by
  intro a h
  unfold Ut at h
  simp only[Bool.and_eq_true] at h
  obtain⟨b,o,s⟩:=a
  unfold rnA
  cases s with
  | none=>simp only[hσ _ h.1,Option.map_none]
  | some k=>simp only[hσ _ h.1,Option.map_some,hσ k h.2]
 have hC:∀ c,(Nat.blt c big||p (c-big))=true→rnC σ c=c:=by
  intro c h
  unfold rnC
  cases hb:Nat.blt c big
  ·rw[hb,Bool.false_or] at h
   have:¬ c<big:=fun hc=>by rw[(Nat.blt_eq).mpr hc] at hb; cases hb
   rw[cond_false,hσ _ h]
   exact Nat.add_sub_of_le (Nat.le_of_not_lt this)
  ·rw[cond_true]
 have hP:∀ a:Option Addr,(match a with|some a=>Ut p a|none=>true)=true→a.map (rnA σ)=a:=fun a h=>by
  cases a with
  | none=>rfl
  | some a=>simp only[Option.map_some,hA a h]
 have hF:∀ (l:List Value),l.all Qm=true→∀ d,l.map (rnV σ d)=l:=fun l h d=>ZP (List.all_eq_true.1 h)
 intro d
 induction d with
 | zero =>
  intro v h
  cases v with
  | pointer a=>cases a with
   | none=>rfl
   | some a=>simp only[rnV,Option.map_some,hA a h]
  | slice a l c =>
   simp only[okV,Bool.and_eq_true] at h
   simp only[rnV,hP a h.1,hC c h.2]
  | _=>rfl
 | succ d ih =>
  have hl:∀ cs:Array Value,cs.toList.all (okV p d)=true→(⟨cs.toList.map (rnV σ d)⟩:Array Value)=cs:=fun cs h=>by
   apply Array.ext'
   simp only[]
   rw[List.map_congr_left (g:=id) fun v hv=>ih v (List.all_eq_true.1 h v hv)]
   simp
  intro v h
  cases v with
  | pointer a=>cases a with
   | none=>rfl
   | some a=>simp only[rnV,Option.map_some,hA a h]
  | slice a l c =>
   simp only[okV,Bool.and_eq_true] at h
   simp only[rnV,hP a h.1,hC c h.2]
  | func fn fs cs =>
   simp only[okV,Bool.and_eq_true] at h
   simp only[rnV,hl fs h.1.2,hl cs h.2]
  | iface t v=>simp only[rnV,ih v h]
  | agg cs=>simp only[rnV,hl cs h]
  | tuple cs=>simp only[rnV,hl cs h]
  | _=>rfl
structure InId (d:Nat) (c:Con):Prop where
 h:∀ x∈c.h,x.1<c.n∧(∀ q,x.2.op=some q→q.1<c.n)∧x.2.rw=false∧∀ v∈x.2.cells,okV (fun l=>Nat.blt l c.n) d v=true
 flat:∀ x∈c.h',x.2.op≠none→∀ v∈x.2.cells,Qm v=true
def ZE8 (σ:Nat→Nat) (d:Nat) (h:Heap):Heap:=h.map fun x=>(σ x.1,⟨x.2.rw,x.2.op.map fun q=>(σ q.1,q.2),(match x.2.op with|some _=>x.2.cells|none=>x.2.cells.map (rnV σ d)),x.2.it⟩)
theorem Ztu {σ:Nat→Nat} {d:Nat} {h:Heap} (hf:∀ x∈h,x.2.op≠none→∀ v∈x.2.cells,Qm v=true):ZE8 σ d h=rnH σ d h:=by
 unfold ZE8 rnH
 apply List.map_congr_left
 intro x hx
 unfold rnB
 cases ho:x.2.op with
 | none=>rfl
 | some p=>simp only[ZP (hf x hx (by rw[ho]; simp))]
structure FlatC (c:Con):Prop where
 flat:∀ x∈c.h',x.2.op≠none→∀ v∈x.2.cells,Qm v=true
def Con.useF (q:Prop) (d:Nat) (c:Con) (ρ:List Nat) (args:List Value) (s:St):Res :=
 bif (c.h'.all fun x=>Nat.blt (lift c.n s.n ρ x.1) (s.n+(c.n'-c.n)))&&(c.lo'.all fun x=>Nat.blt (lift c.n s.n ρ x.1) (s.n+(c.n'-c.n)))&&Ztr (lift c.n s.n ρ) c.h then
  some (rnV (lift c.n s.n ρ) d c.res,
   {n:=s.n+(c.n'-c.n),
    h:=ZE8 (lift c.n s.n ρ) d c.h'++s.h.filter (fun x => !(c.h.any fun y=>y.2.rw&&Nat.beq (lift c.n s.n ρ y.1) x.1)),
    lo:=(c.lo'.map fun y=>(lift c.n s.n ρ y.1,y.2))++s.lo,
    esc:=s.esc,T:=s.T,k:=s.k,
    O:=s.O∧q∧Zna (lift c.n s.n ρ) d args c.args∧Vr d (fun l=>Nat.blt l c.n) (lift c.n s.n ρ) s.h c.h∧ZbK (fun l=>Nat.blt l c.n) (lift c.n s.n ρ) s.lo c.lo })
 else none
theorem Con.useF_ok {P:Program} {f:FuncId} {d:Nat} {c:Con} {q:Prop} (hc:q→ConOk P f d c) (hf:FlatC c) {ρ:List Nat} {args:List Value} {s s':St} {v:Value} (h:c.useF q d ρ args s=some (v,s')) :
  WX s s'∧(s'.O→ZcY P f∧ZeZ P f args s v s'):=by
 have e:c.useF q d ρ args s=c.use q d ρ args s:=by
  unfold Con.useF Con.use
  rw[Ztu (d:=d) hf.flat]
 rw[e] at h
 exact Con.use_ok hc h
def Zk (d:Nat) (sel:Znb) (b:QM):QM:=fun f args s=>match sel f args s with
 | some x=>x.1.useF x.2.2 d x.2.1 args s
 | none=>b f args s
theorem Zn {P:Program} {d:Nat} {sel:Znb} {b:QM} (h:∀ f args s c ρ q,sel f args s=some (c,ρ,q)→(q→ConOk P f d c)∧FlatC c) (hb:Zs P b):Zs P (Zk d sel b):=by
 intro f args s v s' hc
 unfold Zk at hc
 split at hc
 ·rename_i x hx
  obtain⟨c,ρ,q⟩:=x
  obtain⟨h1,h2⟩:=h f args s c ρ q hx
  exact Con.useF_ok h1 h2 hc
 ·exact hb f args s v s' hc
def ZbL {P:Program} (l:List (Ent P)):FuncId→Zfz:=fun g nt c f=>(ZLW l g nt c f).map fun x=>(x.1,⟨x.2.e,{ x.2.s with esc:=0 }⟩)
theorem Wh {P:Program} (l:List (Ent P)):∀ f fn c,P.funcs[f]? = some fn→fn.body=some c→Wg P (Wa c) (ZbL l f):=by
 intro g fn cb h1 h2 nt c f f' x h
 unfold ZbL at h
 obtain⟨y,hy,he⟩:=oM h
 have:=ZBw l g fn cb h1 h2 nt c f y.2 y.1 hy
 simp only[Prod.mk.injEq] at he
 obtain⟨rfl,rfl⟩:=he
 refine⟨⟨this.1.1,this.1.2.1,this.1.2.2⟩,fun hm hO r a w Q hf hwf hg hfr hQ=>this.2 hm hO r a w Q hf hwf hg hfr ?_⟩
 intro r' a' w' T hf'
 exact hQ r' a' w' (T.trans (To.same T.good rfl rfl rfl)) hf'
theorem Zgq {P:Program} {lp:Zfz} {nt L:Nat} {c:Code} {S:List Code} (hlp:Wg P S lp) (hS:∀ c'∈Wa c,c'∈S) {X:Type} (I F:X→Sf) (ex:X→Exit) (μ:X→Nat) (hI:∀ x,(I x).Wf)
  (hround:∀ x,∃ (call:QM) (T:List (Nat×Bool)) (e:Exit) (g:Fr) (d:Nat) (p:Nat→Bool) (σ:Nat→Nat),Zs P call∧evC P call lp nt L c ((I x).frT nt T)=some (e,g)∧g.s.O ∧
   ((e = .normal∧∃ y,μ y<μ x∧F y=F x∧ex y=ex x∧Sf.Leads d p σ (I x) g (I y) (F x))∨(e ≠ .normal∧e=ex x∧Sf.Leads d p σ (I x) g (F x) (F x)))) :
  ∀ x,Vh P nt c ((I x).fr nt) (ex x) ((F x).fr nt):=by
 have key:∀ m x,μ x=m→Vh P nt c ((I x).fr nt) (ex x) ((F x).fr nt):=by
  intro m
  induction m using Nat.strongRecOn with
  | _ m ih =>
   intro x hm r a w Q hf hwf hg hfr hQ
   obtain⟨call,T,e,g,d,p,σ,hcall,hev,hO,hcase⟩:=hround x
   have hx:=hI x
   have hgl:=hg.low hx.ok.s
   have hfl:=hf.low (hx.ok.t nt)
   refine UX ?_
   refine(ZbF hcall hlp (ZlK hcall) L c _ _ _ hS hev hO (r.low (I x).n) a w _ hfl hwf (hgl.same rfl rfl) (Zgp hx.ng) ?_).1
   intro r1 a1 w1 T0 hf1
   have T1:To (r.low (I x).n) (I x).st w r1 g.s w1:=T0.start rfl rfl rfl
   rcases hcase with⟨rfl,y,hy1,hy2,hy3,hL⟩|⟨hne,rfl,hL⟩
   ·have hy:=hI y
    have hS:=ZeK hL.h hL.inj hL.lo
    have hgy:=hS.good hL.σ0 T1.good
    have hfy:=hL.l.fits hL.σ0 hf1
    have hfrY:WL (r1.by σ p) (I y).n (F y).n:=fun l hl _=>by
     have h1:Nat.blt l NG=false:=by
      cases h:Nat.blt l NG
      ·rfl
      ·have:=hy.ng; simp at h; omega
     show(Nat.blt l NG||(p l&&r1.d (σ l)))=false
     rw[h1,hL.pn l hl]; rfl
    refine ih (μ y) (by omega) y rfl (r1.by σ p) a1 w1 Q hfy hy.wfn hgy hfrY ?_
    rw[hy2,hy3]
    intro r3 a3 w3 T2 hf3
    obtain⟨T3,hv⟩:=T1.behind hg hx.ng hL.σ0 hS T2 hL.n hfr hL.keep.s (fun g k hk=>hL.ro _ (Qb hk))
    refine hQ _ a3 w3 T3 ⟨hf3.size,hf3.defers,fun t => ?_⟩
    rcases hL.keep.t nt t with h|h
    ·exact .inl h
    ·exact hv _ _ h (hf3.tmps t)
   ·have hS:=ZeK hL.h hL.inj hL.lo
    have hgy:=hS.good hL.σ0 T1.good
    have hfy:=hL.l.fits hL.σ0 hf1
    obtain⟨T3,hv⟩:=T1.behind hg hx.ng hL.σ0 hS (To.refl hgy) hL.n hfr hL.keep.s (fun g k hk=>hL.ro _ (Qb hk))
    have:=hQ _ a1 w1 T3 ⟨hfy.size,hfy.defers,fun t=>by
     rcases hL.keep.t nt t with h|h
     ·exact .inl h
     ·exact hv _ _ h (hfy.tmps t)⟩
    cases hex:ex x with
    | normal=>exact absurd hex hne
    | _=>rw[hex] at this; exact this
 exact fun x=>key _ x rfl
abbrev Steps:=List (Nat×FuncId×Con×List Nat)
def Zp6 (n:Nat) (f:FuncId):Steps→Option (Con×List Nat)
 | []=>none
 | x::l=>bif Nat.beq x.1 n&&Nat.beq x.2.1 f then some x.2.2 else Zp6 n f l
def Za (L:Steps):Znb:=fun f _ s=>(Zp6 s.n f L).map fun x=>(x.1,x.2,True)
theorem ZkC {n:Nat} {f:FuncId}:∀ {L:Steps} {c:Con} {ρ:List Nat},Zp6 n f L=some (c,ρ)→(n,f,c,ρ)∈L
 | [],_,_,h=>by cases h
 | x::l,c,ρ,h=>by
  unfold Zp6 at h
  cases hb:(Nat.beq x.1 n&&Nat.beq x.2.1 f)<;>rw[hb] at h
  ·exact List.mem_cons_of_mem _ (ZkC h)
  ·rw[Bool.and_eq_true] at hb
   have e1:=eB hb.1
   have e2:=eB hb.2
   obtain⟨x1,x2,x3⟩:=x
   simp only[cond_true,Option.some.injEq] at h
   subst h e1 e2
   exact List.mem_cons_self ..
theorem Zj {P:Program} {d:Nat} {L:Steps} (h:∀ x∈L,ConOk P x.2.1 d x.2.2.1∧FlatC x.2.2.1):∀ f args s c ρ q,Za L f args s=some (c,ρ,q)→(q→ConOk P f d c)∧FlatC c:=by
 intro f args s c ρ q hs
 unfold Za at hs
 obtain⟨⟨c',ρ'⟩,h1,h2⟩:=oM hs
 cases h2
 have:=h _ (ZkC h1)
 exact⟨fun _=>this.1,this.2⟩
def intB:Int→Int→Bool
 | .ofNat a,.ofNat b=>Nat.beq a b
 | .negSucc a,.negSucc b=>Nat.beq a b
 | _,_=>false
theorem ZBz {a b:Int} (h:intB a b=true):a=b:=by
 cases a<;>cases b<;>first|(cases h; done)|(rw[eB h])
def ZFu:Option Nat→Option Nat→Bool
 | none,none=>true
 | some a,some b=>Nat.beq a b
 | _,_=>false
theorem ZwM {a b:Option Nat} (h:ZFu a b=true):a=b:=by
 cases a<;>cases b<;>first|rfl|(cases h; done)|(rw[eB h])
def ZBA (a b:Addr):Bool:=Nat.beq a.block b.block&&Nat.beq a.off b.off&&ZFu a.spot b.spot
theorem ZwN {a b:Addr} (h:ZBA a b=true):a=b:=by
 obtain⟨a1,a2,a3⟩:=a
 obtain⟨b1,b2,b3⟩:=b
 simp only[ZBA,Bool.and_eq_true] at h
 rw[eB h.1.1,eB h.1.2,ZwM h.2]
def Ztv:Option Addr→Option Addr→Bool
 | none,none=>true
 | some a,some b=>ZBA a b
 | _,_=>false
theorem Znd {a b:Option Addr} (h:Ztv a b=true):a=b:=by
 cases a<;>cases b<;>first|rfl|(cases h; done)|(rw[ZwN h])
def eqL (e:Value→Value→Bool):List Value→List Value→Bool
 | [],[]=>true
 | a::x,b::y=>e a b&&eqL e x y
 | _,_=>false
theorem Zp7 {e:Value→Value→Bool} (he:∀ a b,e a b=true→a=b):∀ {x y:List Value},eqL e x y=true→x=y
 | [],[],_=>rfl
 | a::x,b::y,h=>by
  simp only[eqL,Bool.and_eq_true] at h
  rw[he a b h.1,Zp7 he h.2]
 | [],_::_,h=>by cases h
 | _::_,[],h=>by cases h
def eq0:Value→Value→Bool
 | .bool a,.bool b=>Bool.xor (!a) b
 | .int k a,.int k' b=>decide (k=k')&&intB a b
 | .string a,.string b=>decide (a=b)
 | .pointer a,.pointer b=>Ztv a b
 | .slice a l c,.slice a' l' c'=>Ztv a a'&&Nat.beq l l'&&Nat.beq c c'
 | .nilIface,.nilIface=>true
 | .nilFunc,.nilFunc=>true
 | _,_=>false
theorem ZAn (a b:Value) (h:eq0 a b=true):a=b:=by
 cases a<;>cases b<;>first|rfl|(cases h; done)|skip
 ·rename_i a b; cases a<;>cases b<;>first|rfl|(cases h; done)
 ·simp only[eq0,Bool.and_eq_true,decide_eq_true_eq] at h
  rw[h.1,ZBz h.2]
 ·simp only[eq0,decide_eq_true_eq] at h
  rw[h]
 ·rw[Znd h]
 ·simp only[eq0,Bool.and_eq_true] at h
  rw[Znd h.1.1,eB h.1.2,eB h.2]
def eqV:Nat→Value→Value→Bool
 | 0,v,w=>eq0 v w
 | d+1,v,w=>match v,w with
  | .agg a,.agg b=>eqL (eqV d) a.toList b.toList
  | .tuple a,.tuple b=>eqL (eqV d) a.toList b.toList
  | v,w=>eq0 v w
theorem Zne:∀ (d:Nat) (a b:Value),eqV d a b=true→a=b
 | 0,a,b,h=>ZAn a b h
 | d+1,a,b,h=>by
  unfold eqV at h
  split at h
  ·rename_i a b; obtain⟨a⟩:=a; obtain⟨b⟩:=b; have:=Zp7 (Zne d) h; simp only at this; rw[this]
  ·rename_i a b; obtain⟨a⟩:=a; obtain⟨b⟩:=b; have:=Zp7 (Zne d) h; simp only at this; rw[this]
  ·exact ZAn a b h
def Zp8 (σ:Nat→Nat) (d:Nat):List Value→List Value→Bool
 | [],[]=>true
 | a::x,b::y=>eqV 3 a (rnV σ d b)&&Zp8 σ d x y
 | _,_=>false
theorem Znf {σ:Nat→Nat} {d:Nat}:∀ {x y:List Value},Zp8 σ d x y=true→Zna σ d x y
 | [],[],_=>trivial
 | a::x,b::y,h=>by
  simp only[Zp8,Bool.and_eq_true] at h
  exact⟨Zne 3 _ _ h.1,Znf h.2⟩
 | [],_::_,h=>by cases h
 | _::_,[],h=>by cases h
def Zng (d:Nat) (p:Nat→Bool) (σ:Nat→Nat) (h1:Heap):Heap→Bool
 | []=>true
 | x::l=>(p x.1&&x.2.cells.all (okV p d)&&(match x.2.op with|none=>true|some q=>p q.1)&&Zow x.2.it &&
   (match look h1 (σ x.1) with
       | none=>false
       | some k1=>(!x.2.rw||k1.rw)&&(opB k1.op (x.2.op.map fun q=>(σ q.1,q.2))||Zm4 x.2)&&Zow k1.it&&eqL (eqV 3) k1.cells (x.2.cells.map (rnV σ d))))&&Zng d p σ h1 l
theorem Zi6 {d:Nat} {p:Nat→Bool} {σ:Nat→Nat} {h1:Heap}:∀ {l:Heap},Zng d p σ h1 l=true→Vr d p σ h1 l
 | [],_=>trivial
 | x::l,h=>by
  simp only[Zng,Bool.and_eq_true] at h
  obtain⟨⟨⟨⟨⟨a,b⟩,c⟩,i⟩,e⟩,h2⟩:=h
  refine⟨⟨a,b,c,?_⟩,Zi6 h2⟩
  cases hk:look h1 (σ x.1) with
  | none=>rw[hk] at e; cases e
  | some k1 =>
   rw[hk] at e
   simp only[Bool.and_eq_true] at e
   exact⟨e.1.1.1,e.1.1.2,by rw[ZbC e.1.2,ZbC i]; trivial,Zp7 (Zne 3) e.2⟩
def Zp9:List (Nat×Nat)→Nat→Nat→Bool
 | [],_,_=>false
 | y::l,k,m=>bif Nat.beq y.1 k then Nat.ble m y.2 else Zp9 l k m
theorem Znh:∀ {l:List (Nat×Nat)} {k m:Nat},Zp9 l k m=true→Zi2 l k m
 | [],_,_,h=>by cases h
 | y::l,k,m,h=>by
  simp only[Zp9,Zi2] at h ⊢
  cases hb:Nat.beq y.1 k<;>rw[hb] at h
  ·exact Znh h
  ·exact Nat.le_of_ble_eq_true h
def Zni (p:Nat→Bool) (σ:Nat→Nat) (l1:List (Nat×Nat)):List (Nat×Nat)→Bool
 | []=>true
 | x::l=>p x.1&&Zp9 l1 (σ x.1) x.2&&Zni p σ l1 l
theorem Zi7 {p:Nat→Bool} {σ:Nat→Nat} {l1:List (Nat×Nat)}:∀ {l:List (Nat×Nat)},Zni p σ l1 l=true→ZbK p σ l1 l
 | [],_=>trivial
 | x::l,h=>by
  simp only[Zni,Bool.and_eq_true] at h
  exact⟨⟨h.1.1,Znh h.1.2⟩,Zi7 h.2⟩
def ZAo (d:Nat) (q:Nat→Bool):Heap→Bool
 | []=>true
 | x::l=>q x.1&&(match x.2.op with|none=>true|some p=>q p.1)&&x.2.cells.all (okV q d)&&ZAo d q l
theorem ZoP {d:Nat} {q:Nat→Bool}:∀ {l:Heap},ZAo d q l=true→OkH q l
 | [],_=>trivial
 | x::l,h=>by
  simp only[ZAo,Bool.and_eq_true] at h
  exact⟨⟨h.1.1.1,h.1.1.2,fun v hv=>Q5 d v (List.all_eq_true.1 h.1.2 v hv)⟩,ZoP h.2⟩
theorem Zhi {d:Nat} {q:Nat→Bool}:∀ {l:Heap},ZAo d q l=true→∀ x∈l,q x.1=true∧∀ v∈x.2.cells,okV q d v=true
 | [],_,_,hx=>nomatch hx
 | y::l,h,x,hx=>by
  simp only[ZAo,Bool.and_eq_true] at h
  rcases List.mem_cons.1 hx with rfl|hx
  ·exact⟨h.1.1.1,fun v hv=>List.all_eq_true.1 h.1.2 v hv⟩
  ·exact Zhi h.2 x hx
def ZBB (c:Con):Bool:=c.h'.all fun x=>match x.2.op with|none=>true|some _=>x.2.cells.all Qm
theorem ZwO {c:Con} (h:ZBB c=true):FlatC c:=⟨fun x hx hne v hv=>by
 have:=List.all_eq_true.1 h x hx
 cases e:x.2.op with
 | none=>exact absurd e hne
 | some q=>rw[e] at this; exact List.all_eq_true.1 this v hv⟩
def ZLD (d:Nat) (c:Con):Bool :=
 Nat.ble NG c.n&&Nat.ble c.n c.n'&&ZAo d (fun l=>Nat.blt l c.n) c.h&&c.lo.all (fun x=>Nat.blt x.1 c.n)&&ZAo d (fun l=>Nat.blt l c.n') c.h'&&c.lo'.all (fun x=>Nat.blt x.1 c.n')&&c.args.all (okV (fun l=>Nat.blt l c.n) d)&&okV (fun l=>Nat.blt l c.n') d c.res
theorem ZBC {d:Nat} {c:Con} (h:ZLD d c=true):c.Wf d:=by
 simp only[ZLD,Bool.and_eq_true] at h
 obtain⟨⟨⟨⟨⟨⟨⟨a,b⟩,e⟩,f⟩,g⟩,i⟩,j⟩,k⟩:=h
 exact⟨Nat.le_of_ble_eq_true a,Nat.le_of_ble_eq_true b,ZoP e,f,List.all_eq_true.2 fun x hx=>(Zhi g x hx).1,i,j,k,fun x hx v hv=>(Zhi g x hx).2 v hv⟩
def ZwP (d:Nat) (c:Con) (v:Value) (s':St):Bool :=
 Zng d (fun l=>Nat.blt l c.n') id s'.h c.h'&&Ztr id c.h'&&Zni (fun l=>Nat.blt l c.n') id s'.lo c.lo'&&okV (fun l=>Nat.blt l c.n') d c.res&&eqV 3 v c.res && !isU c.res &&
 ZAo d (XP c.n c.n' id (fun l=>Nat.blt l c.n')) c.h'&&c.lo'.all (fun x=>XP c.n c.n' id (fun l=>Nat.blt l c.n') x.1)&&okV (XP c.n c.n' id (fun l=>Nat.blt l c.n')) d c.res
theorem ZwQ {d:Nat} {c:Con} {v:Value} {s':St} (h:ZwP d c v s'=true):c.Ends d (fun l=>Nat.blt l c.n') id v s':=by
 simp only[ZwP,Bool.and_eq_true] at h
 obtain⟨⟨⟨⟨⟨⟨⟨⟨a,b⟩,e⟩,f⟩,g⟩,i⟩,j⟩,k⟩,m⟩:=h
 exact⟨fun _ _=>rfl,Zi6 a,b,Zi7 e,⟨f,by rw[JB]; exact Zne 3 _ _ g⟩,by simpa using i,ZoP j,k,Q5 d _ m,fun x _ _ => .inl rfl⟩
def Znj (d:Nat) (call:QM) (f:FuncId) (c:Con):Prop:=match call f c.args c.s0 with
 | some x=>bif ZLD d c&&ZBB c&&ZwP d c x.1 x.2 then x.2.O else False
 | none=>False
theorem Zi8 {P:Program} {call:QM} (hcall:Zs P call) {d:Nat} {f:FuncId} {c:Con} (h:Znj d call f c=True):ConOk P f d c∧FlatC c:=by
 have h:=of_eq_true h
 unfold Znj at h
 split at h
 ·rename_i x hx
  cases hb:(ZLD d c&&ZBB c&&ZwP d c x.1 x.2)<;>rw[hb] at h
  ·exact h.elim
  ·simp only[Bool.and_eq_true] at hb
   exact⟨Qn hcall (ZBC hb.1.1) (T:=[]) (v:=x.1) (s':=x.2) hx h (ZwQ hb.2),ZwO hb.1.2⟩
 ·exact h.elim
def Con.useB (d:Nat) (c:Con) (ρ:List Nat) (args:List Value) (s:St):Res :=
 bif Zp8 (lift c.n s.n ρ) d args c.args&&Zng d (fun l=>Nat.blt l c.n) (lift c.n s.n ρ) s.h c.h&&Zni (fun l=>Nat.blt l c.n) (lift c.n s.n ρ) s.lo c.lo then
  (c.useF True d ρ args s).map fun x=>(x.1,{ x.2 with O:=s.O })
 else none
theorem Con.useB_ok {P:Program} {f:FuncId} {d:Nat} {c:Con} (hc:ConOk P f d c) (hf:FlatC c) {ρ:List Nat} {args:List Value} {s s':St} {v:Value} (h:c.useB d ρ args s=some (v,s')) :
  WX s s'∧(s'.O→ZcY P f∧ZeZ P f args s v s'):=by
 unfold Con.useB at h
 obtain⟨hb,h⟩:=Qy h
 simp only[Bool.and_eq_true] at hb
 obtain⟨⟨q1,q2⟩,q3⟩:=hb
 obtain⟨⟨v1,s1⟩,h1,h2⟩:=oM h
 simp only[Prod.mk.injEq] at h2
 obtain⟨rfl,rfl⟩:=h2
 have hm:=Con.useF_ok (fun _:True=>hc) hf h1
 have hO:s.O→s1.O:=fun h=>by
  unfold Con.useF at h1
  obtain⟨_,h1⟩:=Qy h1
  simp only[Option.some.injEq,Prod.mk.injEq] at h1
  rw[← h1.2]
  exact⟨h,trivial,Znf q1,Zi6 q2,Zi7 q3⟩
 refine⟨⟨hm.1.1,id,fun hw=>hm.1.2.2 hw⟩,fun h => ?_⟩
 obtain⟨he,hcall⟩:=hm.2 (hO h)
 refine⟨he,fun r w hwf hg hfr hbd=>(hcall r w hwf hg hfr hbd).mono ?_⟩
 rintro e w' ⟨r',he,T,hb⟩
 exact⟨r',he,T.trans (To.same T.good rfl rfl rfl),hb⟩
def ZBD:List Value→List Nat
 | []=>[]
 | [.pointer (some a)]=>[a.block-3,a.block-2,a.block-1,a.block]
 | _::l=>ZBD l
def ZE9 (d:Nat) (f:FuncId) (args:List Value) (s:St):List (FuncId×Con)→Res
 | []=>none
 | x::l=>bif Nat.beq x.1 f then(match x.2.useB d (ZBD args) args s with|some r=>some r|none=>ZE9 d f args s l) else ZE9 d f args s l
def ZwR (d:Nat) (L:List (FuncId×Con)) (b:QM):QM:=fun f args s=>match ZE9 d f args s L with
 | some r=>some r
 | none=>b f args s
theorem Ztw {P:Program} {d:Nat} {f:FuncId} {args:List Value} {s s':St} {v:Value}:∀ {L:List (FuncId×Con)},(∀ x∈L,ConOk P x.1 d x.2∧FlatC x.2)→ZE9 d f args s L=some (v,s')→WX s s'∧(s'.O→ZcY P f∧ZeZ P f args s v s')
 | [],_,h=>by cases h
 | x::l,hL,h=>by
  have ih:ZE9 d f args s l=some (v,s')→_:=fun h=>Ztw (fun y hy=>hL y (List.mem_cons_of_mem _ hy)) h
  unfold ZE9 at h
  cases hb:Nat.beq x.1 f<;>rw[hb] at h
  ·exact ih h
  ·have e:=eB hb
   subst e
   simp only[cond_true] at h
   split at h
   ·rename_i r hr
    cases h
    have:=hL x (List.mem_cons_self ..)
    exact Con.useB_ok this.1 this.2 hr
   ·exact ih h
theorem ZwS {P:Program} {d:Nat} {L:List (FuncId×Con)} {b:QM} (h:∀ x∈L,ConOk P x.1 d x.2∧FlatC x.2) (hb:Zs P b):Zs P (ZwR d L b):=by
 intro f args s v s' hc
 unfold ZwR at hc
 split at hc
 ·rename_i r hr
  cases hc
  exact Ztw h hr
 ·exact hb f args s v s' hc
def Ztx (d:Nat) (sel:FuncId→List Value→Option Con) (b:QM):QM:=fun f args s=>match sel f args with
 | some c=>(match c.useB d (ZBD args) args s with|some r=>some r|none=>b f args s)
 | none=>b f args s
theorem Zqa {P:Program} {d:Nat} {sel:FuncId→List Value→Option Con} {b:QM} (h:∀ f args c,sel f args=some c→ConOk P f d c∧FlatC c) (hb:Zs P b):Zs P (Ztx d sel b):=by
 intro f args s v s' hc
 unfold Ztx at hc
 split at hc
 ·rename_i c hs
  split at hc
  ·rename_i r hr
   cases hc
   have:=h f args c hs
   exact Con.useB_ok this.1 this.2 hr
  ·exact hb f args s v s' hc
 ·exact hb f args s v s' hc
end Go.Proofs.YtagacmljbgkmoaaGreatDoor.Sy
