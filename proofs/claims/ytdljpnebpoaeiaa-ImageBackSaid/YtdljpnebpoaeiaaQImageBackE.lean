/-
  ImageBack: part 5 of the proof.
-/
import Derived.Test.YtdljpnebpoaeiaaQImageBackD
set_option linter.unusedSimpArgs false
set_option linter.unusedVariables false
set_option linter.unusedSectionVars false
namespace Go.Proofs.Ytdljpnebpoaeiaa
open Go.RowKit
open Sy
def mnA (G : Value) (most : Nat) : List Value:=[.int .i64 (most : Int),G,.pointer (some ⟨64,0,none⟩),.pointer (some ⟨66,0,none⟩)]
def mnH (off : Nat) (b : Bool) (bs : List UInt8) : Sy.Heap:=[(64,⟨false,none,[ncG],none⟩),(65,⟨false,none,[.pointer (some ⟨67,0,none⟩)],none⟩),(66,⟨true,none,[.bool b],none⟩),(67,⟨true,none,[rdV 68 off bs 69],none⟩),(68,⟨false,some (0,0),u8s bs,none⟩)]
theorem mn_a0 (G : Value) (most off : Nat) (b : Bool) (bs : List UInt8) : evF Try.prog (baseC 3 (selNcc 67 68 [(73,off,b,69)] bs)) noLoop 100 10 42 (mnA G most) ⟨73,mnH off b bs,[(69,bs.length - off)],0,[(0,false),(1,false),(2,false),(3,false),(4,false),(5,false),(6,false)],0,True⟩ = some (undef,{ n:=74,h:=[(66,⟨true,none,[Value.bool false],none⟩),(67,⟨true,none,[rnV (lift 69 73 [65,66,67,68,69]) 3 (rdV 67 (numO 4 off bs) bs 69)],none⟩),(64,{ rw:=false,op:=none,cells:=[Value.func (Fn.func 40) { toList:=[] } { toList:=[Value.pointer (some ⟨65,0,none⟩),.pointer (some ⟨66,0,none⟩)] }],it:=none : Sy.Blk }),(65,⟨false,none,[Value.pointer (some ⟨67,0,none⟩)],none⟩),(68,⟨false,some (0,0),u8s bs,none⟩)],lo:=[(73,bs.length - numO 4 off bs),(69,bs.length - off)],esc:=0,T:=[],k:=7,O:=(((((((True∧NumOk 4 off bs∧(rr (Value.int .i64 4)∧rr (Value.pointer (some ⟨65,0,none⟩))∧rr (Value.pointer (some ⟨66,0,none⟩))∧True)∧((tt∧tt∧tt∧tt∧tt∧True∧rr [Value.pointer (some ⟨67,0,none⟩)])∧(tt∧tt∧tt∧tt∧tt∧True∧rr [Value.bool b])∧(tt∧(okV (fun l => l.blt 69) 3 (rdV 67 off bs 68) && true) = true∧tt∧tt∧tt∧True∧[rdV 68 off bs 69] = [rnV (lift 69 73 [65,66,67,68,69]) 3 (rdV 67 off bs 68)])∧(tt∧(u8s bs).all (okV (fun l => l.blt 69) 3) = true∧tt∧tt∧tt∧True∧u8s bs = List.map (rnV (lift 69 73 [65,66,67,68,69]) 3) (u8s bs))∧True)∧(tt∧bs.length - off ≤ bs.length - off)∧True)∧(b && numIs 4 off bs) = false)∧(b && numIs 4 off bs) = false)∧(b && numIs 4 off bs) = false)∧(b && numIs 4 off bs) = false)∧(b && numIs 4 off bs) = false)∧decide ((↑(numV 4 off bs):Int) > (0:Int)) = false)∧decide ((↑(numV 4 off bs):Int) > (0:Int)) = false : St }):=by kernel_rfl
theorem mn_a1 (G : Value) (most off : Nat) (b : Bool) (bs : List UInt8) : evF Try.prog (baseC 3 (selNcc 67 68 [(73,off,b,69)] bs)) noLoop 100 10 42 (mnA G most) ⟨73,mnH off b bs,[(69,bs.length - off)],0,[(0,false),(1,false),(2,false),(3,false),(4,false),(5,true),(6,true)],0,True⟩ = some (undef,{ n:=74,h:=[(66,⟨true,none,[Value.bool false],none⟩),(67,⟨true,none,[rnV (lift 69 73 [65,66,67,68,69]) 3 (rdV 67 (numO 4 off bs) bs 69)],none⟩),(64,{ rw:=false,op:=none,cells:=[Value.func (Fn.func 40) { toList:=[] } { toList:=[Value.pointer (some ⟨65,0,none⟩),.pointer (some ⟨66,0,none⟩)] }],it:=none : Sy.Blk }),(65,⟨false,none,[Value.pointer (some ⟨67,0,none⟩)],none⟩),(68,⟨false,some (0,0),u8s bs,none⟩)],lo:=[(73,bs.length - numO 4 off bs),(69,bs.length - off)],esc:=0,T:=[],k:=7,O:=(((((((True∧NumOk 4 off bs∧(rr (Value.int .i64 4)∧rr (Value.pointer (some ⟨65,0,none⟩))∧rr (Value.pointer (some ⟨66,0,none⟩))∧True)∧((tt∧tt∧tt∧tt∧tt∧True∧rr [Value.pointer (some ⟨67,0,none⟩)])∧(tt∧tt∧tt∧tt∧tt∧True∧rr [Value.bool b])∧(tt∧(okV (fun l => l.blt 69) 3 (rdV 67 off bs 68) && true) = true∧tt∧tt∧tt∧True∧[rdV 68 off bs 69] = [rnV (lift 69 73 [65,66,67,68,69]) 3 (rdV 67 off bs 68)])∧(tt∧(u8s bs).all (okV (fun l => l.blt 69) 3) = true∧tt∧tt∧tt∧True∧u8s bs = List.map (rnV (lift 69 73 [65,66,67,68,69]) 3) (u8s bs))∧True)∧(tt∧bs.length - off ≤ bs.length - off)∧True)∧(b && numIs 4 off bs) = false)∧(b && numIs 4 off bs) = false)∧(b && numIs 4 off bs) = false)∧(b && numIs 4 off bs) = false)∧(b && numIs 4 off bs) = false)∧decide ((↑(numV 4 off bs):Int) > (0:Int)) = true)∧decide ((↑(numV 4 off bs):Int) > (0:Int)) = true : St }):=by kernel_rfl
theorem mn_b0 (G : Value) (most off : Nat) (b : Bool) (bs : List UInt8) : evF Try.prog (baseC 3 (selNcc 67 68 [(73,off,b,69)] bs)) noLoop 100 10 42 (mnA G most) ⟨73,mnH off b bs,[(69,bs.length - off)],0,[(0,true),(1,true),(2,true),(3,true),(4,true),(5,false),(6,false)],0,True⟩ = some (undef,{ n:=74,h:=[(66,⟨true,none,[Value.bool (decide ((↑(numV 4 off bs):Int) ≤ IntKind.u32.wrap (↑most)))],none⟩),(67,⟨true,none,[rnV (lift 69 73 [65,66,67,68,69]) 3 (rdV 67 (numO 4 off bs) bs 69)],none⟩),(64,{ rw:=false,op:=none,cells:=[Value.func (Fn.func 40) { toList:=[] } { toList:=[Value.pointer (some ⟨65,0,none⟩),.pointer (some ⟨66,0,none⟩)] }],it:=none : Sy.Blk }),(65,⟨false,none,[Value.pointer (some ⟨67,0,none⟩)],none⟩),(68,⟨false,some (0,0),u8s bs,none⟩)],lo:=[(73,bs.length - numO 4 off bs),(69,bs.length - off)],esc:=0,T:=[],k:=7,O:=(((((((True∧NumOk 4 off bs∧(rr (Value.int .i64 4)∧rr (Value.pointer (some ⟨65,0,none⟩))∧rr (Value.pointer (some ⟨66,0,none⟩))∧True)∧((tt∧tt∧tt∧tt∧tt∧True∧rr [Value.pointer (some ⟨67,0,none⟩)])∧(tt∧tt∧tt∧tt∧tt∧True∧rr [Value.bool b])∧(tt∧(okV (fun l => l.blt 69) 3 (rdV 67 off bs 68) && true) = true∧tt∧tt∧tt∧True∧[rdV 68 off bs 69] = [rnV (lift 69 73 [65,66,67,68,69]) 3 (rdV 67 off bs 68)])∧(tt∧(u8s bs).all (okV (fun l => l.blt 69) 3) = true∧tt∧tt∧tt∧True∧u8s bs = List.map (rnV (lift 69 73 [65,66,67,68,69]) 3) (u8s bs))∧True)∧(tt∧bs.length - off ≤ bs.length - off)∧True)∧(b && numIs 4 off bs) = true)∧(b && numIs 4 off bs) = true)∧(b && numIs 4 off bs) = true)∧(b && numIs 4 off bs) = true)∧(b && numIs 4 off bs) = true)∧decide ((↑(numV 4 off bs):Int) > (0:Int)) = false)∧decide ((↑(numV 4 off bs):Int) > (0:Int)) = false : St }):=by kernel_rfl
theorem mn_b1 (G : Value) (most off : Nat) (b : Bool) (bs : List UInt8) : evF Try.prog (baseC 3 (selNcc 67 68 [(73,off,b,69)] bs)) noLoop 100 10 42 (mnA G most) ⟨73,mnH off b bs,[(69,bs.length - off)],0,[(0,true),(1,true),(2,true),(3,true),(4,true),(5,true),(6,true),(7,false)],0,True⟩ = some (undef,{ n:=74,h:=[(66,⟨true,none,[Value.bool (decide ((↑(numV 4 off bs):Int) ≤ IntKind.u32.wrap (↑most)))],none⟩),(67,⟨true,none,[rnV (lift 69 73 [65,66,67,68,69]) 3 (rdV 67 (numO 4 off bs) bs 69)],none⟩),(64,{ rw:=false,op:=none,cells:=[Value.func (Fn.func 40) { toList:=[] } { toList:=[Value.pointer (some ⟨65,0,none⟩),.pointer (some ⟨66,0,none⟩)] }],it:=none : Sy.Blk }),(65,⟨false,none,[Value.pointer (some ⟨67,0,none⟩)],none⟩),(68,⟨false,some (0,0),u8s bs,none⟩)],lo:=[(73,bs.length - numO 4 off bs),(69,bs.length - off)],esc:=0,T:=[],k:=8,O:=((((((((True∧NumOk 4 off bs∧(rr (Value.int .i64 4)∧rr (Value.pointer (some ⟨65,0,none⟩))∧rr (Value.pointer (some ⟨66,0,none⟩))∧True)∧((tt∧tt∧tt∧tt∧tt∧True∧rr [Value.pointer (some ⟨67,0,none⟩)])∧(tt∧tt∧tt∧tt∧tt∧True∧rr [Value.bool b])∧(tt∧(okV (fun l => l.blt 69) 3 (rdV 67 off bs 68) && true) = true∧tt∧tt∧tt∧True∧[rdV 68 off bs 69] = [rnV (lift 69 73 [65,66,67,68,69]) 3 (rdV 67 off bs 68)])∧(tt∧(u8s bs).all (okV (fun l => l.blt 69) 3) = true∧tt∧tt∧tt∧True∧u8s bs = List.map (rnV (lift 69 73 [65,66,67,68,69]) 3) (u8s bs))∧True)∧(tt∧bs.length - off ≤ bs.length - off)∧True)∧(b && numIs 4 off bs) = true)∧(b && numIs 4 off bs) = true)∧(b && numIs 4 off bs) = true)∧(b && numIs 4 off bs) = true)∧(b && numIs 4 off bs) = true)∧decide ((↑(numV 4 off bs):Int) > (0:Int)) = true)∧decide ((↑(numV 4 off bs):Int) > (0:Int)) = true)∧decide ((↑(numV 4 off bs):Int) ≤ IntKind.u32.wrap (↑most)) = false : St }):=by kernel_rfl
def manyW (most off : Nat) (b : Bool) (bs : List UInt8) : Bool:=(b && numIs 4 off bs) && decide (numV 4 off bs ≤ most)
def manyE (w : Bool) (off : Nat) (bs : List UInt8) : Sy.Heap:=[(66,⟨true,none,[.bool w],none⟩),(67,⟨true,none,[rdV 68 off bs 73],none⟩)]
def mnC (G : Value) (most off : Nat) (b : Bool) (bs : List UInt8) : Con:=⟨mnA G most,73,mnH off b bs,[(69,bs.length - off)],undef,74,manyE (manyW most off b bs) (numO 4 off bs) bs,[(73,bs.length - numO 4 off bs)]⟩
theorem mn_wf (G : Value) (most off : Nat) (b : Bool) (bs : List UInt8) (hG : okV (fun l => Nat.blt l 73) 3 G = true) : (mnC G most off b bs).Wf 3:=by
 refine ⟨by show NG ≤ 73; decide,by show 73 ≤ 74; omega,⟨⟨rfl,rfl,fun v hv => ?_⟩,⟨rfl,rfl,fun v hv => ?_⟩,⟨rfl,rfl,fun v hv => ?_⟩,⟨rfl,rfl,fun v hv => ?_⟩,⟨rfl,rfl,flat_bnd (u8s_flat bs)⟩,trivial⟩,rfl,rfl,rfl,?_,rfl,fun x hx v hv => ?_⟩
 ·obtain rfl:=List.mem_singleton.1 hv; exact okV_bnd 3 _ (by kernel_rfl)
 ·obtain rfl:=List.mem_singleton.1 hv; exact okV_bnd 3 _ (by kernel_rfl)
 ·obtain rfl:=List.mem_singleton.1 hv; exact bnd_flat0 _ rfl
 ·obtain rfl:=List.mem_singleton.1 hv; exact rdV_bnd rfl rfl
 ·show (okV (fun l => Nat.blt l 73) 3 _ && (okV (fun l => Nat.blt l 73) 3 G && _)) = true
  rw [hG]; rfl
 ·simp only [rr, tt, mnC,manyE,List.mem_cons,List.not_mem_nil,or_false] at hx
  rcases hx with rfl | rfl
  ·obtain rfl:=List.mem_singleton.1 hv; rfl
  ·obtain rfl:=List.mem_singleton.1 hv; exact rdV_ok rfl rfl
theorem mn_con (G : Value) (most off : Nat) (b : Bool) (bs : List UInt8) (hG : okV (fun l => Nat.blt l 73) 3 G = true) (hm : most ≤ 100000) (ho : off ≤ 1000000000) (hl : bs.length ≤ 1000000000) (h : numV 4 off bs = 0 ∨ manyW most off b bs = false) : ConOk Try.prog 42 3 (mnC G most off b bs):=by
 have hr:=run_ok (L:=100) i_names (baseC_ok (d:=3) (selNcc_ok 67 68 [(73,off,b,69)] bs)) (noLoop_ok _) 10
 have hw:=mn_wf G most off b bs hG
 have l1 : lift 69 73 [65,66,67,68,69] 67 = 68:=rfl
 have l2 : lift 69 73 [65,66,67,68,69] 69 = 73:=rfl
 have l3 : lift 69 73 [65,66,67,68,69] 68 = 69:=rfl
 have e2 : okV (fun l => Nat.blt l 69) 3 (rdV 67 off bs 68) = true:=rdV_ok rfl rfl
 have f5 : ∀ xs p d,(u8s xs).all (okV p d) = true:=fun xs _ _ => flat_all (u8s_flat xs)
 have f6 : ∀ xs σ d,(u8s xs).map (rnV σ d) = u8s xs:=fun xs _ _ => flat_map (u8s_flat xs)
 have hn : NumOk 4 off bs:=⟨.inr (.inr rfl),ho,hl⟩
 have wm : IntKind.u32.wrap (most : Int) = (most : Int):=w32 most (by omega)
 have hend : ∀ (w : Bool) (q : Prop) (h1 h2 h3 : Nat × Sy.Blk) (lo : List (Nat × Nat)) (k : Nat) (h : Sy.Heap),w = manyW most off b bs → Sy.look h 66 = some ⟨true,none,[.bool w],none⟩ → Sy.look h 67 = some ⟨true,none,[rdV 68 (numO 4 off bs) bs 73],none⟩ →
   (mnC G most off b bs).Ends 3 (fun l => Nat.blt l 74) id undef ⟨74,h,(73,bs.length - numO 4 off bs) :: lo,0,[],k,q⟩:=by
  intro w q h1 h2 h3 lo k h hw e66 e67
  subst hw
  refine ⟨fun _ _ => rfl,⟨⟨rfl,rfl,rfl,?_⟩,⟨rfl,by simp only [rr, tt, List.all_cons,List.all_nil,Bool.and_true]; exact rdV_ok rfl rfl,rfl,?_⟩,trivial⟩,rfl,⟨⟨rfl,Nat.le_refl _⟩,trivial⟩,⟨rfl,rfl⟩,rfl,⟨⟨rfl,rfl,fun v hv => ?_⟩,⟨rfl,rfl,fun v hv => ?_⟩,trivial⟩,rfl,bnd_undef _,fun x hx hrw => ?_⟩
  ·show (match Sy.look h 66 with | none => False | some k1 => _)
   rw [e66]; exact ⟨rfl,rfl,trivial,rfl⟩
  ·show (match Sy.look h 67 with | none => False | some k1 => _)
   rw [e67]; exact ⟨rfl,rfl,trivial,by simp only [rr, tt, List.map_cons,List.map_nil,rdV_rn]; rfl⟩
  ·obtain rfl:=List.mem_singleton.1 hv; exact bnd_flat0 _ rfl
  ·obtain rfl:=List.mem_singleton.1 hv; exact rdV_bnd rfl rfl
  ·simp only [rr, tt, mnC,manyE,List.mem_cons,List.not_mem_nil,or_false] at hx
   rcases hx with rfl | rfl <;> cases hrw
 have z0 : (0,⟨false,none,[],none⟩) = ((0 : Nat),(⟨false,none,[],none⟩ : Sy.Blk)):=rfl
 cases hb : (b && numIs 4 off bs)
 ·have hW : manyW most off b bs = false:=by unfold manyW; rw [hb]; rfl
  by_cases hz : numV 4 off bs = 0
  ·have m0 : decide ((numV 4 off bs : Int) > 0) = false:=by rw [hz]; rfl
   have hh:=mn_a0 G most off b bs
   simp only [rr, tt, rdV_rn,l1,l2,hb,wm] at hh
   refine conOk_run (c:=mnC G most off b bs) hr hw hh ?_ (hend _ _ (0,⟨false,none,[],none⟩) (0,⟨false,none,[],none⟩) (0,⟨false,none,[],none⟩) _ _ _ hW.symm rfl rfl)
   simp only [rr, tt, e2,f5,f6,l1,l3,hn,m0,Bool.and_self,and_true,true_and,and_self,Nat.le_refl]
  ·have m0 : decide ((numV 4 off bs : Int) > 0) = true:=by simp; omega
   have hh:=mn_a1 G most off b bs
   simp only [rr, tt, rdV_rn,l1,l2,hb,wm] at hh
   refine conOk_run (c:=mnC G most off b bs) hr hw hh ?_ (hend _ _ (0,⟨false,none,[],none⟩) (0,⟨false,none,[],none⟩) (0,⟨false,none,[],none⟩) _ _ _ hW.symm rfl rfl)
   simp only [rr, tt, e2,f5,f6,l1,l3,hn,m0,Bool.and_self,and_true,true_and,and_self,Nat.le_refl]
 ·have hW : manyW most off b bs = decide (numV 4 off bs ≤ most):=by unfold manyW; rw [hb]; rfl
  have hd : decide ((numV 4 off bs : Int) ≤ (most : Int)) = decide (numV 4 off bs ≤ most):=by simp
  by_cases hz : numV 4 off bs = 0
  ·have m0 : decide ((numV 4 off bs : Int) > 0) = false:=by rw [hz]; rfl
   have hh:=mn_b0 G most off b bs
   simp only [rr, tt, rdV_rn,l1,l2,hb,wm,hd] at hh
   refine conOk_run (c:=mnC G most off b bs) hr hw hh ?_ (hend _ _ (0,⟨false,none,[],none⟩) (0,⟨false,none,[],none⟩) (0,⟨false,none,[],none⟩) _ _ _ hW.symm rfl rfl)
   simp only [rr, tt, e2,f5,f6,l1,l3,hn,m0,Bool.and_self,and_true,true_and,and_self,Nat.le_refl]
  ·have m0 : decide ((numV 4 off bs : Int) > 0) = true:=by simp; omega
   have hf : decide (numV 4 off bs ≤ most) = false:=by rw [← hW]; exact h.resolve_left hz
   have hh:=mn_b1 G most off b bs
   simp only [rr, tt, rdV_rn,l1,l2,hb,wm,hd] at hh
   refine conOk_run (c:=mnC G most off b bs) hr hw hh ?_ (hend _ _ (0,⟨false,none,[],none⟩) (0,⟨false,none,[],none⟩) (0,⟨false,none,[],none⟩) _ _ _ hW.symm rfl rfl)
   simp only [rr, tt, e2,f5,f6,l1,l3,hn,m0,hf,Bool.and_self,and_true,true_and,and_self,Nat.le_refl]
end Go.Proofs.Ytdljpnebpoaeiaa
namespace Go.Proofs.Ytdljpnebpoaeiaa
open Go.RowKit
open Sy
def mcG : Value:=.func (.func 43) ⟨[]⟩ ⟨[.pointer (some ⟨70,0,none⟩),.pointer (some ⟨64,0,none⟩)]⟩
def mcI0 (y0 y1 y2 y3 y4 y5 : Value) (bs : List UInt8) (off m : Nat) (b : Bool) : Sf :=
 ⟨74,[(1,mcG),(3,.pointer (some ⟨66,0,none⟩)),(6,.int .u32 (m : Nat))],
  [(64,⟨false,none,[ncG],none⟩),(65,⟨false,none,[.pointer (some ⟨67,0,none⟩)],none⟩),(66,⟨true,none,[.bool b],none⟩),(67,⟨true,none,[rdV 68 off bs 73],none⟩),(68,⟨false,some (0,0),u8s bs,none⟩),
     (70,⟨true,none,[y0,y1,y2,.slice none 0 0,y3,y4,y5],none⟩)],[(73,bs.length - off)]⟩
def mcI1 (y0 y1 y2 y3 y4 y5 : Value) (bs : List UInt8) (acc : List Nat) (off m : Nat) (b : Bool) : Sf :=
 ⟨75,[(1,mcG),(3,.pointer (some ⟨66,0,none⟩)),(6,.int .u32 (m : Nat))],
  [(64,⟨false,none,[ncG],none⟩),(65,⟨false,none,[.pointer (some ⟨67,0,none⟩)],none⟩),(66,⟨true,none,[.bool b],none⟩),(67,⟨true,none,[rdV 68 off bs 73],none⟩),(68,⟨false,some (0,0),u8s bs,none⟩),
     (70,⟨true,none,[y0,y1,y2,.slice (some ⟨74,0,none⟩) acc.length (big + 74),y3,y4,y5],none⟩),(74,⟨true,some (74,1),u32s acc,none⟩)],[(73,bs.length - off),(74,acc.length)]⟩
def mcF (y0 y1 y2 y3 y4 y5 : Value) (bs : List UInt8) (acc : List Nat) (off : Nat) (b : Bool) : Sf :=
 ⟨77,[],[(66,⟨true,none,[.bool b],none⟩),(67,⟨true,none,[rdV 68 off bs 75],none⟩),(70,⟨true,none,[y0,y1,y2,.slice (some ⟨76,0,none⟩) acc.length (big + 76),y3,y4,y5],none⟩),(76,⟨true,some (76,1),u32s acc,none⟩)],[(75,bs.length - off),(76,acc.length)]⟩
theorem mc_n0 (y0 : Value) (y1 : Value) (y2 : Value) (y3 : Value) (y4 : Value) (y5 : Value) (bs : List UInt8) (off : Nat) (m : Nat) (b : Bool) : evC Try.prog (evF Try.prog (baseC 3 (selNcc 67 68 [(74,off,b,73)] bs)) noLoop 100 5) (noLoop 42) 25 100 (loopOf Try.prog 42 0) (Sf.frT 25 (mcI0 y0 y1 y2 y3 y4 y5 bs off m b) [(0,true),(1,true),(2,true),(3,false)]) = some (Exit.normal,{ e:=[[unk,.func (Fn.func 43) { toList:=[] } { toList:=[Value.pointer (some ⟨70,0,none⟩),.pointer (some ⟨64,0,none⟩)] },unk,.pointer (some ⟨66,0,none⟩),unk,unk,.int .u32 (IntKind.u32.wrap ((↑m : Int) - (1 : Int))),unk,unk,unk,unk,unk,unk,unk,unk,unk],[Value.int .u32 (↑m),.bool (decide ((↑m : Int) > (0 : Int))),.bool (decide ((↑m : Int) > (0 : Int))),.bool b,.bool b,.int .u32 (↑m),.int .u32 (IntKind.u32.wrap ((↑m : Int) - (1 : Int))),.func (Fn.func 43) { toList:=[] } { toList:=[Value.pointer (some ⟨70,0,none⟩),.pointer (some ⟨64,0,none⟩)] },undef,unk,unk,unk,unk,unk,unk,unk]],s:={ n:=77,h:=[(76,⟨true,some (76,1),[Value.int .u32 (↑(numV 4 off bs))],none⟩),(75,⟨true,none,[Value.int .u32 (↑(numV 4 off bs))],none⟩),(66,⟨true,none,[Value.bool (b && numIs 4 off bs)],none⟩),(67,⟨true,none,[rnV (lift 69 74 [65,66,67,68,73]) 3 (rdV 67 (numO 4 off bs) bs 69)],none⟩),(64,{ rw:=false,op:=none,cells:=[Value.func (Fn.func 40) { toList:=[] } { toList:=[Value.pointer (some ⟨65,0,none⟩),.pointer (some ⟨66,0,none⟩)] }],it:=none : Sy.Blk }),(65,⟨false,none,[Value.pointer (some ⟨67,0,none⟩)],none⟩),(68,⟨false,some (0,0),u8s bs,none⟩),(70,⟨true,none,[y0,y1,y2,.slice (some ⟨76,0,none⟩) 1 9223372036854775884,y3,y4,y5],none⟩)],lo:=[(76,1),(74,bs.length - numO 4 off bs),(73,bs.length - off)],esc:=0,T:=[],k:=4,O:=((((True ∧ decide ((↑m : Int) > (0 : Int)) = true) ∧ decide ((↑m : Int) > (0 : Int)) = true) ∧ b = true) ∧ NumOk 4 off bs ∧ (rr (Value.int .i64 4) ∧ rr (Value.pointer (some ⟨65,0,none⟩)) ∧ rr (Value.pointer (some ⟨66,0,none⟩)) ∧ True) ∧ ((tt ∧ tt ∧ tt ∧ tt ∧ tt ∧ True ∧ rr [Value.pointer (some ⟨67,0,none⟩)]) ∧ (tt ∧ tt ∧ tt ∧ tt ∧ tt ∧ True ∧ rr [Value.bool b]) ∧ (tt ∧ (okV (fun l => l.blt 69) 3 (rdV 67 off bs 68) && true) = true ∧ tt ∧ tt ∧ tt ∧ True ∧ [rdV 68 off bs 73] = [rnV (lift 69 74 [65,66,67,68,73]) 3 (rdV 67 off bs 68)]) ∧ (tt ∧ (u8s bs).all (okV (fun l => l.blt 69) 3) = true ∧ tt ∧ tt ∧ tt ∧ True ∧ u8s bs = List.map (rnV (lift 69 74 [65,66,67,68,73]) 3) (u8s bs)) ∧ True) ∧ (tt ∧ bs.length - off ≤ bs.length - off) ∧ True) ∧ false = false : St } : Fr }):=by kernel_rfl
theorem mc_n1 (y0 : Value) (y1 : Value) (y2 : Value) (y3 : Value) (y4 : Value) (y5 : Value) (bs : List UInt8) (acc : List Nat) (off : Nat) (m : Nat) (b : Bool) : evC Try.prog (evF Try.prog (baseC 3 (selNcc 67 68 [(75,off,b,73)] bs)) noLoop 100 5) (noLoop 42) 25 100 (loopOf Try.prog 42 0) (Sf.frT 25 (mcI1 y0 y1 y2 y3 y4 y5 bs acc off m b) [(0,true),(1,true),(2,true)]) = some (Exit.normal,{ e:=[[unk,.func (Fn.func 43) { toList:=[] } { toList:=[Value.pointer (some ⟨70,0,none⟩),.pointer (some ⟨64,0,none⟩)] },unk,.pointer (some ⟨66,0,none⟩),unk,unk,.int .u32 (IntKind.u32.wrap ((↑m : Int) - (1 : Int))),unk,unk,unk,unk,unk,unk,unk,unk,unk],[Value.int .u32 (↑m),.bool (decide ((↑m : Int) > (0 : Int))),.bool (decide ((↑m : Int) > (0 : Int))),.bool b,.bool b,.int .u32 (↑m),.int .u32 (IntKind.u32.wrap ((↑m : Int) - (1 : Int))),.func (Fn.func 43) { toList:=[] } { toList:=[Value.pointer (some ⟨70,0,none⟩),.pointer (some ⟨64,0,none⟩)] },undef,unk,unk,unk,unk,unk,unk,unk]],s:={ n:=78,h:=[(77,⟨true,some (77,1),u32s acc ++ [Value.int .u32 (↑(numV 4 off bs))],none⟩),(76,⟨true,none,[Value.int .u32 (↑(numV 4 off bs))],none⟩),(66,⟨true,none,[Value.bool (b && numIs 4 off bs)],none⟩),(67,⟨true,none,[rnV (lift 69 75 [65,66,67,68,73]) 3 (rdV 67 (numO 4 off bs) bs 69)],none⟩),(64,{ rw:=false,op:=none,cells:=[Value.func (Fn.func 40) { toList:=[] } { toList:=[Value.pointer (some ⟨65,0,none⟩),.pointer (some ⟨66,0,none⟩)] }],it:=none : Sy.Blk }),(65,⟨false,none,[Value.pointer (some ⟨67,0,none⟩)],none⟩),(68,⟨false,some (0,0),u8s bs,none⟩),(70,⟨true,none,[y0,y1,y2,.slice (some ⟨77,0,none⟩) (acc.length + 1) 9223372036854775885,y3,y4,y5],none⟩)],lo:=[(77,acc.length + 1),(75,bs.length - numO 4 off bs),(73,bs.length - off),(74,acc.length)],esc:=0,T:=[],k:=3,O:=bif (lenT (u32s acc)).beq (acc.length * 1) then bif ((acc.length + 1) * 4).ble 1099511627776 && (acc.length + 1).blt 4611686018427387904 then (((True ∧ decide ((↑m : Int) > (0 : Int)) = true) ∧ decide ((↑m : Int) > (0 : Int)) = true) ∧ b = true) ∧ NumOk 4 off bs ∧ (rr (Value.int .i64 4) ∧ rr (Value.pointer (some ⟨65,0,none⟩)) ∧ rr (Value.pointer (some ⟨66,0,none⟩)) ∧ True) ∧ ((tt ∧ tt ∧ tt ∧ tt ∧ tt ∧ True ∧ rr [Value.pointer (some ⟨67,0,none⟩)]) ∧ (tt ∧ tt ∧ tt ∧ tt ∧ tt ∧ True ∧ rr [Value.bool b]) ∧ (tt ∧ (okV (fun l => l.blt 69) 3 (rdV 67 off bs 68) && true) = true ∧ tt ∧ tt ∧ tt ∧ True ∧ [rdV 68 off bs 73] = [rnV (lift 69 75 [65,66,67,68,73]) 3 (rdV 67 off bs 68)]) ∧ (tt ∧ (u8s bs).all (okV (fun l => l.blt 69) 3) = true ∧ tt ∧ tt ∧ tt ∧ True ∧ u8s bs = List.map (rnV (lift 69 75 [65,66,67,68,73]) 3) (u8s bs)) ∧ True) ∧ (tt ∧ bs.length - off ≤ bs.length - off) ∧ True else False else False : St } : Fr }):=by kernel_rfl
theorem mc_e1 (y0 : Value) (y1 : Value) (y2 : Value) (y3 : Value) (y4 : Value) (y5 : Value) (bs : List UInt8) (acc : List Nat) (off : Nat) (m : Nat) (b : Bool) : evC Try.prog (evF Try.prog (baseC 3 (selNcc 67 68 [] bs)) noLoop 100 5) (noLoop 42) 25 100 (loopOf Try.prog 42 0) (Sf.frT 25 (mcI1 y0 y1 y2 y3 y4 y5 bs acc off m b) [(0,false),(1,false)]) = some (Exit.exit 0,{ e:=[[unk,.func (Fn.func 43) { toList:=[] } { toList:=[Value.pointer (some ⟨70,0,none⟩),.pointer (some ⟨64,0,none⟩)] },unk,.pointer (some ⟨66,0,none⟩),unk,unk,.int .u32 (↑m),unk,unk,unk,unk,unk,unk,unk,unk,unk],[Value.int .u32 (↑m),.bool (decide ((↑m : Int) > (0 : Int))),.bool (decide ((↑m : Int) > (0 : Int))),undef,.bool false,unk,unk,unk,unk,unk,unk,unk,unk,unk,unk,unk]],s:={ n:=75,h:=[(64,{ rw:=false,op:=none,cells:=[Value.func (Fn.func 40) { toList:=[] } { toList:=[Value.pointer (some ⟨65,0,none⟩),.pointer (some ⟨66,0,none⟩)] }],it:=none : Sy.Blk }),(65,⟨false,none,[Value.pointer (some ⟨67,0,none⟩)],none⟩),(66,⟨true,none,[Value.bool b],none⟩),(67,⟨true,none,[rdV 68 off bs 73],none⟩),(68,⟨false,some (0,0),u8s bs,none⟩),(70,⟨true,none,[y0,y1,y2,.slice (some ⟨74,0,none⟩) acc.length 9223372036854775882,y3,y4,y5],none⟩),(74,⟨true,some (74,1),u32s acc,none⟩)],lo:=[(73,bs.length - off),(74,acc.length)],esc:=0,T:=[],k:=2,O:=(True ∧ decide ((↑m : Int) > (0 : Int)) = false) ∧ decide ((↑m : Int) > (0 : Int)) = false : St } : Fr }):=by kernel_rfl
theorem mc_e2 (y0 : Value) (y1 : Value) (y2 : Value) (y3 : Value) (y4 : Value) (y5 : Value) (bs : List UInt8) (acc : List Nat) (off : Nat) (m : Nat) (b : Bool) : evC Try.prog (evF Try.prog (baseC 3 (selNcc 67 68 [] bs)) noLoop 100 5) (noLoop 42) 25 100 (loopOf Try.prog 42 0) (Sf.frT 25 (mcI1 y0 y1 y2 y3 y4 y5 bs acc off m b) [(0,true),(1,true),(2,false)]) = some (Exit.exit 0,{ e:=[[unk,.func (Fn.func 43) { toList:=[] } { toList:=[Value.pointer (some ⟨70,0,none⟩),.pointer (some ⟨64,0,none⟩)] },unk,.pointer (some ⟨66,0,none⟩),unk,unk,.int .u32 (↑m),unk,unk,unk,unk,unk,unk,unk,unk,unk],[Value.int .u32 (↑m),.bool (decide ((↑m : Int) > (0 : Int))),.bool (decide ((↑m : Int) > (0 : Int))),.bool b,.bool b,unk,unk,unk,unk,unk,unk,unk,unk,unk,unk,unk]],s:={ n:=75,h:=[(64,{ rw:=false,op:=none,cells:=[Value.func (Fn.func 40) { toList:=[] } { toList:=[Value.pointer (some ⟨65,0,none⟩),.pointer (some ⟨66,0,none⟩)] }],it:=none : Sy.Blk }),(65,⟨false,none,[Value.pointer (some ⟨67,0,none⟩)],none⟩),(66,⟨true,none,[Value.bool b],none⟩),(67,⟨true,none,[rdV 68 off bs 73],none⟩),(68,⟨false,some (0,0),u8s bs,none⟩),(70,⟨true,none,[y0,y1,y2,.slice (some ⟨74,0,none⟩) acc.length 9223372036854775882,y3,y4,y5],none⟩),(74,⟨true,some (74,1),u32s acc,none⟩)],lo:=[(73,bs.length - off),(74,acc.length)],esc:=0,T:=[],k:=3,O:=((True ∧ decide ((↑m : Int) > (0 : Int)) = true) ∧ decide ((↑m : Int) > (0 : Int)) = true) ∧ b = false : St } : Fr }):=by kernel_rfl
theorem mc_cok {y0 y1 y2 y3 y4 y5 : Value} {p : Nat → Bool} (hy : YOk y0 y1 y2 y3 y4 y5) (h1 : p 71 = true) (h2 : p 72 = true) (c : Value) (hc : okV p 3 c = true) : ∀ v ∈ ([y0,y1,y2,c,y3,y4,y5] : List Value),okV p 3 v = true:=by
 have h:=hy.to h1 h2
 intro v hv
 simp only [rr, tt, List.mem_cons,List.not_mem_nil,or_false] at hv h
 rcases hv with rfl | rfl | rfl | rfl | rfl | rfl | rfl <;> first | exact hc | exact h _ (by simp)
theorem mc_crn {y0 y1 y2 y3 y4 y5 : Value} {σ : Nat → Nat} (hy : YOk y0 y1 y2 y3 y4 y5) (h1 : σ 71 = 71) (h2 : σ 72 = 72) (c c' : Value) (hc : rnV σ 3 c = c') : ([y0,y1,y2,c,y3,y4,y5] : List Value).map (rnV σ 3) = [y0,y1,y2,c',y3,y4,y5]:=by
 have h:=hy.rn h1 h2
 have e0:=h y0 (by simp)
 have e1:=h y1 (by simp)
 have e2:=h y2 (by simp)
 have e3:=h y3 (by simp)
 have e4:=h y4 (by simp)
 have e5:=h y5 (by simp)
 simp only [rr, tt, List.map_cons,List.map_nil,e0,e1,e2,e3,e4,e5,hc]
theorem mc_wf0 (y0 y1 y2 y3 y4 y5 : Value) (bs : List UInt8) (off m : Nat) (b : Bool) (hy : YOk y0 y1 y2 y3 y4 y5) : (mcI0 y0 y1 y2 y3 y4 y5 bs off m b).Wf :=
 ⟨by show NG ≤ 74; decide,Sf.Ok.mk' 3 ⟨⟨rfl,rfl,fun v hv => okV_bnd 3 v (List.all_eq_true.1 (show ([ncG] : List Value).all (okV (fun l => Nat.blt l 74) 3) = true from by kernel_rfl) v hv)⟩,⟨rfl,rfl,fun v hv => okV_bnd 3 v (List.all_eq_true.1 (show ([.pointer (some ⟨67,0,none⟩)] : List Value).all (okV (fun l => Nat.blt l 74) 3) = true from by kernel_rfl) v hv)⟩,
   ⟨rfl,rfl,fun v hv => by obtain rfl:=List.mem_singleton.1 hv; exact bnd_flat0 _ rfl⟩,⟨rfl,rfl,fun v hv => by obtain rfl:=List.mem_singleton.1 hv; exact rdV_bnd rfl rfl⟩,⟨rfl,rfl,flat_bnd (u8s_flat bs)⟩,⟨rfl,rfl,fun v hv => okV_bnd 3 v (mc_cok hy rfl rfl _ rfl v hv)⟩,trivial⟩ rfl (fun x hx => by
  have : (mcI0 y0 y1 y2 y3 y4 y5 bs off m b).e.all (fun x => okV (fun l => Nat.blt l 74) 3 x.2) = true:=by kernel_rfl
  exact List.all_eq_true.1 this x hx)⟩
theorem mc_wf1 (y0 y1 y2 y3 y4 y5 : Value) (bs : List UInt8) (acc : List Nat) (off m : Nat) (b : Bool) (hy : YOk y0 y1 y2 y3 y4 y5) : (mcI1 y0 y1 y2 y3 y4 y5 bs acc off m b).Wf :=
 ⟨by show NG ≤ 75; decide,Sf.Ok.mk' 3 ⟨⟨rfl,rfl,fun v hv => okV_bnd 3 v (List.all_eq_true.1 (show ([ncG] : List Value).all (okV (fun l => Nat.blt l 75) 3) = true from by kernel_rfl) v hv)⟩,⟨rfl,rfl,fun v hv => okV_bnd 3 v (List.all_eq_true.1 (show ([.pointer (some ⟨67,0,none⟩)] : List Value).all (okV (fun l => Nat.blt l 75) 3) = true from by kernel_rfl) v hv)⟩,
   ⟨rfl,rfl,fun v hv => by obtain rfl:=List.mem_singleton.1 hv; exact bnd_flat0 _ rfl⟩,⟨rfl,rfl,fun v hv => by obtain rfl:=List.mem_singleton.1 hv; exact rdV_bnd rfl rfl⟩,⟨rfl,rfl,flat_bnd (u8s_flat bs)⟩,⟨rfl,rfl,fun v hv => okV_bnd 3 v (mc_cok hy rfl rfl _ (sl_ok rfl) v hv)⟩,⟨rfl,rfl,flat_bnd (u32s_flat acc)⟩,trivial⟩ rfl (fun x hx => by
  have : (mcI1 y0 y1 y2 y3 y4 y5 bs acc off m b).e.all (fun x => okV (fun l => Nat.blt l 75) 3 x.2) = true:=by kernel_rfl
  exact List.all_eq_true.1 this x hx)⟩
theorem mcF_ok (y0 y1 y2 y3 y4 y5 : Value) (bs : List UInt8) (acc : List Nat) (off : Nat) (b : Bool) (hy : YOk y0 y1 y2 y3 y4 y5) (q : Nat → Bool) (h66 : q 66 = true) (h67 : q 67 = true) (h68 : q 68 = true) (h70 : q 70 = true) (h71 : q 71 = true) (h72 : q 72 = true) (h75 : q 75 = true) (h76 : q 76 = true) : (mcF y0 y1 y2 y3 y4 y5 bs acc off b).Ok q :=
 ⟨⟨⟨h66,rfl,fun v hv => by obtain rfl:=List.mem_singleton.1 hv; exact bnd_flat0 _ rfl⟩,⟨h67,rfl,fun v hv => by obtain rfl:=List.mem_singleton.1 hv; exact rdV_bnd h68 h75⟩,⟨h70,rfl,fun v hv => okV_bnd 3 v (mc_cok hy h71 h72 _ (sl_ok h76) v hv)⟩,⟨h76,h76,flat_bnd (u32s_flat acc)⟩,trivial⟩,by simp [mcF,h75,h76],fun x hx => by cases hx⟩
def mcσ0 (l : Nat) : Nat:=if l = 73 then 74 else if l = 74 then 76 else l
def mcσ1 (l : Nat) : Nat:=if l = 73 then 75 else if l = 74 then 77 else l
def mcτ (l : Nat) : Nat:=if l = 75 then 73 else if l = 76 then 74 else l
theorem mc_step_n0 (y0 y1 y2 y3 y4 y5 : Value) (bs : List UInt8)  (k off : Nat) (fa : List Nat) (fo : Nat) (fb : Bool) (hy : YOk y0 y1 y2 y3 y4 y5) (ho : off ≤ 1000000000) (hl : bs.length ≤ 1000000000) (ha : ([] : List Nat).length + k + 1 ≤ 100000) :
  ∃ g,evC Try.prog (evF Try.prog (baseC 3 (selNcc 67 68 [(74,off,true,73)] bs)) noLoop 100 5) (noLoop 42) 25 100 (loopOf Try.prog 42 0) ((mcI0 y0 y1 y2 y3 y4 y5 bs off (k + 1) true).frT 25 [(0,true),(1,true),(2,true),(3,false)]) = some (.normal,g) ∧ g.s.O ∧ Sf.Leads 3 (fun l => Nat.blt l 75) mcσ0 (mcI0 y0 y1 y2 y3 y4 y5 bs off (k + 1) true) g (mcI1 y0 y1 y2 y3 y4 y5 bs (([] : List Nat) ++ [numV 4 off bs]) (numO 4 off bs) k (numIs 4 off bs)) (mcF y0 y1 y2 y3 y4 y5 bs fa fo fb):=by
 have hh:=mc_n0 y0 y1 y2 y3 y4 y5 bs off (k + 1) true
 have l1 : lift 69 74 [65,66,67,68,73] 67 = 68:=rfl
 have l2 : lift 69 74 [65,66,67,68,73] 69 = 74:=rfl
 have l3 : lift 69 74 [65,66,67,68,73] 68 = 73:=rfl
 simp only [rr, tt, rdV_rn,l1,l2,l3,u32s_app1,lenT_eq,u32n_len,Nat.mul_one,u32s_one,Bool.true_and] at hh
 refine ⟨_,hh,?_,?_⟩
 ·have e2 : okV (fun l => Nat.blt l 69) 3 (rdV 67 off bs 68) = true:=rdV_ok rfl rfl
  have f5 : ∀ xs p d,(u8s xs).all (okV p d) = true:=fun xs _ _ => flat_all (u8s_flat xs)
  have f6 : ∀ xs σ d,(u8s xs).map (rnV σ d) = u8s xs:=fun xs _ _ => flat_map (u8s_flat xs)
  have m1 : decide (((k + 1 : Nat) : Int) > (0 : Int)) = true:=by simp
  have hn : NumOk 4 off bs:=⟨.inr (.inr rfl),ho,hl⟩
  simp (disch:=omega) only [rr, tt, e2,f5,f6,m1,hn,ble_t,blt_t,beq_t,u32n_len,oneC_u32s,Bool.and_self,cond_true,and_true,true_and,and_self,Nat.le_refl]
 ·refine ⟨fun l hl => ?_,⟨⟨rfl,by kernel_rfl,rfl,rfl,rfl,trivial,by kernel_rfl⟩,⟨rfl,by kernel_rfl,rfl,rfl,rfl,trivial,by kernel_rfl⟩,⟨rfl,by kernel_rfl,rfl,rfl,rfl,trivial,by kernel_rfl⟩,⟨rfl,by simp only [rr, tt, List.all_cons,List.all_nil,Bool.and_true]; exact rdV_ok rfl rfl,rfl,rfl,rfl,trivial,by simp only [rr, tt, List.map_cons,List.map_nil,rdV_rn]; rfl⟩,⟨rfl,flat_all (u8s_flat _),rfl,rfl,rfl,trivial,(flat_map (u8s_flat _)).symm⟩,
    ⟨rfl,List.all_eq_true.2 (mc_cok hy rfl rfl _ (sl_ok rfl)),rfl,rfl,rfl,trivial,((mc_crn hy rfl rfl _ _ (sl_rn mcσ0 74 _)).trans (by rfl)).symm⟩,⟨rfl,flat_all (u32s_flat _),rfl,rfl,rfl,trivial,(flat_map (u32s_flat _)).symm⟩,trivial⟩,rfl,⟨⟨rfl,Nat.le_refl _⟩,⟨rfl,(Nat.le_refl 1)⟩,trivial⟩,
   ⟨⟨by kernel_rfl,by kernel_rfl⟩,⟨by kernel_rfl,by kernel_rfl⟩,⟨rfl,?_⟩,trivial⟩,by show 74 ≤ 75; omega,fun l hl => blt_no hl,mcF_ok y0 y1 y2 y3 y4 y5 bs fa fo fb hy _ rfl rfl rfl rfl rfl rfl rfl rfl,?_⟩
  ·unfold mcσ0; have : NG ≤ 66:=by decide
   rw [if_neg (by omega),if_neg (by omega)]
  ·refine Eq.trans (b:=Value.int .u32 (IntKind.u32.wrap (((k + 1 : Nat) : Int) - 1))) (by kernel_rfl) ?_
   rw [show (((k + 1 : Nat) : Int) - 1) = ((k : Nat) : Int) by omega,u32_nat k (by omega)]; rfl
  ·intro x hx hrw
   simp only [rr, tt, mcI1,List.mem_cons,List.not_mem_nil,or_false] at hx
   rcases hx with rfl | rfl | rfl | rfl | rfl | rfl | rfl <;> first | exact .inl rfl | cases hrw
theorem mc_step_n1 (y0 y1 y2 y3 y4 y5 : Value) (bs : List UInt8) (acc : List Nat) (k off : Nat) (fa : List Nat) (fo : Nat) (fb : Bool) (hy : YOk y0 y1 y2 y3 y4 y5) (ho : off ≤ 1000000000) (hl : bs.length ≤ 1000000000) (ha : acc.length + k + 1 ≤ 100000) :
  ∃ g,evC Try.prog (evF Try.prog (baseC 3 (selNcc 67 68 [(75,off,true,73)] bs)) noLoop 100 5) (noLoop 42) 25 100 (loopOf Try.prog 42 0) ((mcI1 y0 y1 y2 y3 y4 y5 bs acc off (k + 1) true).frT 25 [(0,true),(1,true),(2,true)]) = some (.normal,g) ∧ g.s.O ∧ Sf.Leads 3 (fun l => Nat.blt l 75) mcσ1 (mcI1 y0 y1 y2 y3 y4 y5 bs acc off (k + 1) true) g (mcI1 y0 y1 y2 y3 y4 y5 bs (acc ++ [numV 4 off bs]) (numO 4 off bs) k (numIs 4 off bs)) (mcF y0 y1 y2 y3 y4 y5 bs fa fo fb):=by
 have hh:=mc_n1 y0 y1 y2 y3 y4 y5 bs acc off (k + 1) true
 have l1 : lift 69 75 [65,66,67,68,73] 67 = 68:=rfl
 have l2 : lift 69 75 [65,66,67,68,73] 69 = 75:=rfl
 have l3 : lift 69 75 [65,66,67,68,73] 68 = 73:=rfl
 simp only [rr, tt, rdV_rn,l1,l2,l3,u32s_app1,lenT_eq,u32n_len,Nat.mul_one,Bool.true_and] at hh
 refine ⟨_,hh,?_,?_⟩
 ·have e2 : okV (fun l => Nat.blt l 69) 3 (rdV 67 off bs 68) = true:=rdV_ok rfl rfl
  have f5 : ∀ xs p d,(u8s xs).all (okV p d) = true:=fun xs _ _ => flat_all (u8s_flat xs)
  have f6 : ∀ xs σ d,(u8s xs).map (rnV σ d) = u8s xs:=fun xs _ _ => flat_map (u8s_flat xs)
  have m1 : decide (((k + 1 : Nat) : Int) > (0 : Int)) = true:=by simp
  have hn : NumOk 4 off bs:=⟨.inr (.inr rfl),ho,hl⟩
  simp (disch:=omega) only [rr, tt, e2,f5,f6,m1,hn,ble_t,blt_t,beq_t,u32n_len,oneC_u32s,Bool.and_self,cond_true,and_true,true_and,and_self,Nat.le_refl]
 ·refine ⟨fun l hl => ?_,⟨⟨rfl,by kernel_rfl,rfl,rfl,rfl,trivial,by kernel_rfl⟩,⟨rfl,by kernel_rfl,rfl,rfl,rfl,trivial,by kernel_rfl⟩,⟨rfl,by kernel_rfl,rfl,rfl,rfl,trivial,by kernel_rfl⟩,⟨rfl,by simp only [rr, tt, List.all_cons,List.all_nil,Bool.and_true]; exact rdV_ok rfl rfl,rfl,rfl,rfl,trivial,by simp only [rr, tt, List.map_cons,List.map_nil,rdV_rn]; rfl⟩,⟨rfl,flat_all (u8s_flat _),rfl,rfl,rfl,trivial,(flat_map (u8s_flat _)).symm⟩,
    ⟨rfl,List.all_eq_true.2 (mc_cok hy rfl rfl _ (sl_ok rfl)),rfl,rfl,rfl,trivial,((mc_crn hy rfl rfl _ _ (sl_rn mcσ1 74 _)).trans (by simp only [rr, tt, List.length_append,List.length_cons,List.length_nil]; rfl)).symm⟩,⟨rfl,flat_all (u32s_flat _),rfl,rfl,rfl,trivial,(flat_map (u32s_flat _)).symm⟩,trivial⟩,rfl,⟨⟨rfl,Nat.le_refl _⟩,⟨rfl,by show (acc ++ [numV 4 off bs]).length ≤ acc.length + 1; simp⟩,trivial⟩,
   ⟨⟨by kernel_rfl,by kernel_rfl⟩,⟨by kernel_rfl,by kernel_rfl⟩,⟨rfl,?_⟩,trivial⟩,by show 75 ≤ 75; omega,fun l hl => blt_no hl,mcF_ok y0 y1 y2 y3 y4 y5 bs fa fo fb hy _ rfl rfl rfl rfl rfl rfl rfl rfl,?_⟩
  ·unfold mcσ1; have : NG ≤ 66:=by decide
   rw [if_neg (by omega),if_neg (by omega)]
  ·refine Eq.trans (b:=Value.int .u32 (IntKind.u32.wrap (((k + 1 : Nat) : Int) - 1))) (by kernel_rfl) ?_
   rw [show (((k + 1 : Nat) : Int) - 1) = ((k : Nat) : Int) by omega,u32_nat k (by omega)]; rfl
  ·intro x hx hrw
   simp only [rr, tt, mcI1,List.mem_cons,List.not_mem_nil,or_false] at hx
   rcases hx with rfl | rfl | rfl | rfl | rfl | rfl | rfl <;> first | exact .inl rfl | cases hrw
theorem mc_step_e1 (y0 y1 y2 y3 y4 y5 : Value) (bs : List UInt8) (acc : List Nat) (off m : Nat) (b : Bool) (hy : YOk y0 y1 y2 y3 y4 y5) (hm : m = 0) :
  ∃ g,evC Try.prog (evF Try.prog (baseC 3 (selNcc 67 68 [] bs)) noLoop 100 5) (noLoop 42) 25 100 (loopOf Try.prog 42 0) ((mcI1 y0 y1 y2 y3 y4 y5 bs acc off m b).frT 25 [(0,false),(1,false)]) = some (.exit 0,g) ∧ g.s.O ∧ Sf.Leads 3 (fun l => Nat.blt l 77) mcτ (mcI1 y0 y1 y2 y3 y4 y5 bs acc off m b) g (mcF y0 y1 y2 y3 y4 y5 bs acc off b) (mcF y0 y1 y2 y3 y4 y5 bs acc off b):=by
 refine ⟨_,mc_e1 y0 y1 y2 y3 y4 y5 bs acc off m b,?_,?_⟩
 ·subst hm; simp
 ·refine ⟨fun l hl => ?_,⟨⟨rfl,by kernel_rfl,rfl,rfl,rfl,trivial,by kernel_rfl⟩,⟨rfl,by simp only [rr, tt, List.all_cons,List.all_nil,Bool.and_true]; exact rdV_ok rfl rfl,rfl,rfl,rfl,trivial,by simp only [rr, tt, List.map_cons,List.map_nil,rdV_rn]; rfl⟩,
    ⟨rfl,List.all_eq_true.2 (mc_cok hy rfl rfl _ (sl_ok rfl)),rfl,rfl,rfl,trivial,(mc_crn hy rfl rfl _ _ (sl_rn mcτ 76 _)).symm⟩,⟨rfl,flat_all (u32s_flat _),rfl,rfl,rfl,trivial,(flat_map (u32s_flat _)).symm⟩,trivial⟩,rfl,⟨⟨rfl,Nat.le_refl _⟩,⟨rfl,Nat.le_refl _⟩,trivial⟩,
   trivial,by show 75 ≤ 77; omega,fun l hl => blt_no hl,mcF_ok y0 y1 y2 y3 y4 y5 bs acc off b hy _ rfl rfl rfl rfl rfl rfl rfl rfl,?_⟩
  ·unfold mcτ; have : NG ≤ 66:=by decide
   rw [if_neg (by omega),if_neg (by omega)]
  ·intro x hx hrw
   simp only [rr, tt, mcF,List.mem_cons,List.not_mem_nil,or_false] at hx
   rcases hx with rfl | rfl | rfl | rfl <;> cases hrw
theorem mc_step_e2 (y0 y1 y2 y3 y4 y5 : Value) (bs : List UInt8) (acc : List Nat) (off m : Nat) (b : Bool) (hy : YOk y0 y1 y2 y3 y4 y5) (hm : 0 < m) (hb : b = false) :
  ∃ g,evC Try.prog (evF Try.prog (baseC 3 (selNcc 67 68 [] bs)) noLoop 100 5) (noLoop 42) 25 100 (loopOf Try.prog 42 0) ((mcI1 y0 y1 y2 y3 y4 y5 bs acc off m b).frT 25 [(0,true),(1,true),(2,false)]) = some (.exit 0,g) ∧ g.s.O ∧ Sf.Leads 3 (fun l => Nat.blt l 77) mcτ (mcI1 y0 y1 y2 y3 y4 y5 bs acc off m b) g (mcF y0 y1 y2 y3 y4 y5 bs acc off b) (mcF y0 y1 y2 y3 y4 y5 bs acc off b):=by
 refine ⟨_,mc_e2 y0 y1 y2 y3 y4 y5 bs acc off m b,?_,?_⟩
 ·have m1 : decide ((m : Int) > (0 : Int)) = true:=by simp; omega
  simp only [rr, tt, m1,hb,and_self,true_and]
 ·refine ⟨fun l hl => ?_,⟨⟨rfl,by kernel_rfl,rfl,rfl,rfl,trivial,by kernel_rfl⟩,⟨rfl,by simp only [rr, tt, List.all_cons,List.all_nil,Bool.and_true]; exact rdV_ok rfl rfl,rfl,rfl,rfl,trivial,by simp only [rr, tt, List.map_cons,List.map_nil,rdV_rn]; rfl⟩,
    ⟨rfl,List.all_eq_true.2 (mc_cok hy rfl rfl _ (sl_ok rfl)),rfl,rfl,rfl,trivial,(mc_crn hy rfl rfl _ _ (sl_rn mcτ 76 _)).symm⟩,⟨rfl,flat_all (u32s_flat _),rfl,rfl,rfl,trivial,(flat_map (u32s_flat _)).symm⟩,trivial⟩,rfl,⟨⟨rfl,Nat.le_refl _⟩,⟨rfl,Nat.le_refl _⟩,trivial⟩,
   trivial,by show 75 ≤ 77; omega,fun l hl => blt_no hl,mcF_ok y0 y1 y2 y3 y4 y5 bs acc off b hy _ rfl rfl rfl rfl rfl rfl rfl rfl,?_⟩
  ·unfold mcτ; have : NG ≤ 66:=by decide
   rw [if_neg (by omega),if_neg (by omega)]
  ·intro x hx hrw
   simp only [rr, tt, mcF,List.mem_cons,List.not_mem_nil,or_false] at hx
   rcases hx with rfl | rfl | rfl | rfl <;> cases hrw
def mc_P (bs : List UInt8) (fa : List Nat) (fo : Nat) (fb : Bool) (x : List Nat × Nat × Nat × Bool) : Prop :=
 (x.1 ++ (contC bs x.2.2.1 x.2.1 x.2.2.2).1 = fa ∧ (contC bs x.2.2.1 x.2.1 x.2.2.2).2 = (fo,fb)) ∧ x.2.1 ≤ 1000000000 ∧ x.1.length + x.2.2.1 ≤ 100000 ∧ (x.1 = [] → 0 < x.2.2.1 ∧ x.2.2.2 = true)
def mc_I (y0 y1 y2 y3 y4 y5 : Value) (bs : List UInt8) : List Nat × Nat × Nat × Bool → Sf
 | ([],off,m,b) => mcI0 y0 y1 y2 y3 y4 y5 bs off m b
 | (a :: l,off,m,b) => mcI1 y0 y1 y2 y3 y4 y5 bs (a :: l) off m b
theorem mc_loop (y0 y1 y2 y3 y4 y5 : Value) (bs : List UInt8) (fa : List Nat) (fo : Nat) (fb : Bool) (hy : YOk y0 y1 y2 y3 y4 y5) (hl : bs.length ≤ 1000000000) :
  ∀ x : { x : List Nat × Nat × Nat × Bool // mc_P bs fa fo fb x },LoopOk Try.prog 25 (loopOf Try.prog 42 0) ((mc_I y0 y1 y2 y3 y4 y5 bs x.1).fr 25) (.exit 0) ((mcF y0 y1 y2 y3 y4 y5 bs fa fo fb).fr 25):=by
 refine loop_okC (L:=100) (noLoop_any _ _ 42) (fun _ h => h) (X:={ x : List Nat × Nat × Nat × Bool // mc_P bs fa fo fb x }) (fun x => mc_I y0 y1 y2 y3 y4 y5 bs x.1) (fun _ => mcF y0 y1 y2 y3 y4 y5 bs fa fo fb) (fun _ => .exit 0) (fun x => x.1.2.2.1) (fun x => ?_) ?_
 ·obtain ⟨⟨acc,off,m,b⟩,hx⟩:=x
  cases acc with
  | nil => exact mc_wf0 y0 y1 y2 y3 y4 y5 bs off m b hy
  | cons a l => exact mc_wf1 y0 y1 y2 y3 y4 y5 bs (a :: l) off m b hy
 ·rintro ⟨⟨acc,off,m,b⟩,⟨h1,h2⟩,ho,ha,h0⟩
  have next : ∀ k,m = k + 1 → b = true → mc_P bs fa fo fb (acc ++ [numV 4 off bs],numO 4 off bs,k,numIs 4 off bs):=by
   rintro k rfl rfl
   simp only [] at h1 h2 ha
   have hs:=contC_step bs k off
   rw [hs] at h1 h2
   refine ⟨⟨?_,h2⟩,numO_le ho hl (by omega),by simp; omega,fun h => by simp at h⟩
   rw [List.append_assoc]; exact h1
  cases acc with
  | nil =>
   obtain ⟨hm,rfl⟩:=h0 rfl
   obtain ⟨k,rfl⟩ : ∃ k,m = k + 1:=⟨m - 1,by simp only [] at hm; omega⟩
   obtain ⟨g,e1,e2,e3⟩:=mc_step_n0 y0 y1 y2 y3 y4 y5 bs k off fa fo fb hy ho hl (by simp only [] at ha; exact ha)
   exact ⟨_,_,.normal,g,3,_,_,run_ok (L:=100) i_names (baseC_ok (selNcc_ok _ _ _ _)) (noLoop_ok _) 5,e1,e2,.inl ⟨rfl,⟨_,next k rfl rfl⟩,by show k < k + 1; omega,rfl,rfl,e3⟩⟩
  | cons a l =>
   by_cases hm : m = 0
   ·subst hm
    have hc : contC bs 0 off b = ([],off,b):=by cases b <;> rfl
    simp only [rr, tt, hc,List.append_nil] at h1 h2
    simp only [rr, tt, Prod.mk.injEq] at h2
    obtain ⟨rfl,rfl⟩:=h2
    subst h1
    obtain ⟨g,e1,e2,e3⟩:=mc_step_e1 y0 y1 y2 y3 y4 y5 bs (a :: l) off 0 b hy rfl
    exact ⟨_,_,.exit 0,g,3,_,_,run_ok (L:=100) i_names (baseC_ok (selNcc_ok _ _ _ _)) (noLoop_ok _) 5,e1,e2,.inr ⟨by simp,rfl,e3⟩⟩
   ·cases b with
    | false =>
     have hc : contC bs m off false = ([],off,false):=rfl
     simp only [rr, tt, hc,List.append_nil] at h1 h2
     simp only [rr, tt, Prod.mk.injEq] at h2
     obtain ⟨rfl,rfl⟩:=h2
     subst h1
     obtain ⟨g,e1,e2,e3⟩:=mc_step_e2 y0 y1 y2 y3 y4 y5 bs (a :: l) off m false hy (by omega) rfl
     exact ⟨_,_,.exit 0,g,3,_,_,run_ok (L:=100) i_names (baseC_ok (selNcc_ok _ _ _ _)) (noLoop_ok _) 5,e1,e2,.inr ⟨by simp,rfl,e3⟩⟩
    | true =>
     obtain ⟨k,rfl⟩ : ∃ k,m = k + 1:=⟨m - 1,by omega⟩
     obtain ⟨g,e1,e2,e3⟩:=mc_step_n1 y0 y1 y2 y3 y4 y5 bs (a :: l) k off fa fo fb hy ho hl (by simp only [] at ha; omega)
     exact ⟨_,_,.normal,g,3,_,_,run_ok (L:=100) i_names (baseC_ok (selNcc_ok _ _ _ _)) (noLoop_ok _) 5,e1,e2,.inl ⟨rfl,⟨_,next k rfl rfl⟩,by show k < k + 1; omega,rfl,rfl,e3⟩⟩
def mc_Ent (y0 y1 y2 y3 y4 y5 : Value) (bs : List UInt8) (off m : Nat) (hy : YOk y0 y1 y2 y3 y4 y5) (hl : bs.length ≤ 1000000000) (ho : off ≤ 1000000000) (hm : 0 < m ∧ m ≤ 100000) : Ent Try.prog :=
 entC Try.prog 42 0 25 (mcI0 y0 y1 y2 y3 y4 y5 bs off m true) (.exit 0) (mcF y0 y1 y2 y3 y4 y5 bs (rCa bs m off) (rCo bs m off) (rCb bs m off)) (by kernel_rfl) (by kernel_rfl)
  (mc_loop y0 y1 y2 y3 y4 y5 bs _ _ _ hy hl ⟨([],off,m,true),⟨rfl,rfl⟩,ho,by simp; exact hm.2,fun _ => ⟨hm.1,rfl⟩⟩)
end Go.Proofs.Ytdljpnebpoaeiaa
namespace Go.Proofs.Ytdljpnebpoaeiaa
open Go.RowKit
open Sy
def msG : Value:=.func (.func 46) ⟨[]⟩ ⟨[.pointer (some ⟨70,0,none⟩),.pointer (some ⟨64,0,none⟩)]⟩
def msI0 (y0 y1 y2 y3 y4 y5 : Value) (bs : List UInt8) (off m : Nat) (b : Bool) : Sf :=
 ⟨74,[(1,msG),(3,.pointer (some ⟨66,0,none⟩)),(6,.int .u32 (m : Nat))],
  [(64,⟨false,none,[ncG],none⟩),(65,⟨false,none,[.pointer (some ⟨67,0,none⟩)],none⟩),(66,⟨true,none,[.bool b],none⟩),(67,⟨true,none,[rdV 68 off bs 73],none⟩),(68,⟨false,some (0,0),u8s bs,none⟩),
     (70,⟨true,none,[y0,y1,y2,y3,y4,y5,.slice none 0 0],none⟩)],[(73,bs.length - off)]⟩
def msI1 (y0 y1 y2 y3 y4 y5 : Value) (bs : List UInt8) (acc : List Nat) (off m : Nat) (b : Bool) : Sf :=
 ⟨75,[(1,msG),(3,.pointer (some ⟨66,0,none⟩)),(6,.int .u32 (m : Nat))],
  [(64,⟨false,none,[ncG],none⟩),(65,⟨false,none,[.pointer (some ⟨67,0,none⟩)],none⟩),(66,⟨true,none,[.bool b],none⟩),(67,⟨true,none,[rdV 68 off bs 73],none⟩),(68,⟨false,some (0,0),u8s bs,none⟩),
     (70,⟨true,none,[y0,y1,y2,y3,y4,y5,.slice (some ⟨74,0,none⟩) acc.length (big + 74)],none⟩),(74,⟨true,some (74,1),u32s acc,none⟩)],[(73,bs.length - off),(74,acc.length)]⟩
def msF (y0 y1 y2 y3 y4 y5 : Value) (bs : List UInt8) (acc : List Nat) (off : Nat) (b : Bool) : Sf :=
 ⟨77,[],[(66,⟨true,none,[.bool b],none⟩),(67,⟨true,none,[rdV 68 off bs 75],none⟩),(70,⟨true,none,[y0,y1,y2,y3,y4,y5,.slice (some ⟨76,0,none⟩) acc.length (big + 76)],none⟩),(76,⟨true,some (76,1),u32s acc,none⟩)],[(75,bs.length - off),(76,acc.length)]⟩
theorem ms_n0 (y0 : Value) (y1 : Value) (y2 : Value) (y3 : Value) (y4 : Value) (y5 : Value) (bs : List UInt8) (off : Nat) (m : Nat) (b : Bool) : evC Try.prog (evF Try.prog (baseC 3 (selNcc 67 68 [(74,off,b,73)] bs)) noLoop 100 5) (noLoop 42) 25 100 (loopOf Try.prog 42 0) (Sf.frT 25 (msI0 y0 y1 y2 y3 y4 y5 bs off m b) [(0,true),(1,true),(2,true),(3,false)]) = some (Exit.normal,{ e:=[[unk,.func (Fn.func 46) { toList:=[] } { toList:=[Value.pointer (some ⟨70,0,none⟩),.pointer (some ⟨64,0,none⟩)] },unk,.pointer (some ⟨66,0,none⟩),unk,unk,.int .u32 (IntKind.u32.wrap ((↑m : Int) - (1 : Int))),unk,unk,unk,unk,unk,unk,unk,unk,unk],[Value.int .u32 (↑m),.bool (decide ((↑m : Int) > (0 : Int))),.bool (decide ((↑m : Int) > (0 : Int))),.bool b,.bool b,.int .u32 (↑m),.int .u32 (IntKind.u32.wrap ((↑m : Int) - (1 : Int))),.func (Fn.func 46) { toList:=[] } { toList:=[Value.pointer (some ⟨70,0,none⟩),.pointer (some ⟨64,0,none⟩)] },undef,unk,unk,unk,unk,unk,unk,unk]],s:={ n:=77,h:=[(76,⟨true,some (76,1),[Value.int .u32 (↑(numV 4 off bs))],none⟩),(75,⟨true,none,[Value.int .u32 (↑(numV 4 off bs))],none⟩),(66,⟨true,none,[Value.bool (b && numIs 4 off bs)],none⟩),(67,⟨true,none,[rnV (lift 69 74 [65,66,67,68,73]) 3 (rdV 67 (numO 4 off bs) bs 69)],none⟩),(64,{ rw:=false,op:=none,cells:=[Value.func (Fn.func 40) { toList:=[] } { toList:=[Value.pointer (some ⟨65,0,none⟩),.pointer (some ⟨66,0,none⟩)] }],it:=none : Sy.Blk }),(65,⟨false,none,[Value.pointer (some ⟨67,0,none⟩)],none⟩),(68,⟨false,some (0,0),u8s bs,none⟩),(70,⟨true,none,[y0,y1,y2,y3,y4,y5,.slice (some ⟨76,0,none⟩) 1 9223372036854775884],none⟩)],lo:=[(76,1),(74,bs.length - numO 4 off bs),(73,bs.length - off)],esc:=0,T:=[],k:=4,O:=((((True ∧ decide ((↑m : Int) > (0 : Int)) = true) ∧ decide ((↑m : Int) > (0 : Int)) = true) ∧ b = true) ∧ NumOk 4 off bs ∧ (rr (Value.int .i64 4) ∧ rr (Value.pointer (some ⟨65,0,none⟩)) ∧ rr (Value.pointer (some ⟨66,0,none⟩)) ∧ True) ∧ ((tt ∧ tt ∧ tt ∧ tt ∧ tt ∧ True ∧ rr [Value.pointer (some ⟨67,0,none⟩)]) ∧ (tt ∧ tt ∧ tt ∧ tt ∧ tt ∧ True ∧ rr [Value.bool b]) ∧ (tt ∧ (okV (fun l => l.blt 69) 3 (rdV 67 off bs 68) && true) = true ∧ tt ∧ tt ∧ tt ∧ True ∧ [rdV 68 off bs 73] = [rnV (lift 69 74 [65,66,67,68,73]) 3 (rdV 67 off bs 68)]) ∧ (tt ∧ (u8s bs).all (okV (fun l => l.blt 69) 3) = true ∧ tt ∧ tt ∧ tt ∧ True ∧ u8s bs = List.map (rnV (lift 69 74 [65,66,67,68,73]) 3) (u8s bs)) ∧ True) ∧ (tt ∧ bs.length - off ≤ bs.length - off) ∧ True) ∧ false = false : St } : Fr }):=by kernel_rfl
theorem ms_n1 (y0 : Value) (y1 : Value) (y2 : Value) (y3 : Value) (y4 : Value) (y5 : Value) (bs : List UInt8) (acc : List Nat) (off : Nat) (m : Nat) (b : Bool) : evC Try.prog (evF Try.prog (baseC 3 (selNcc 67 68 [(75,off,b,73)] bs)) noLoop 100 5) (noLoop 42) 25 100 (loopOf Try.prog 42 0) (Sf.frT 25 (msI1 y0 y1 y2 y3 y4 y5 bs acc off m b) [(0,true),(1,true),(2,true)]) = some (Exit.normal,{ e:=[[unk,.func (Fn.func 46) { toList:=[] } { toList:=[Value.pointer (some ⟨70,0,none⟩),.pointer (some ⟨64,0,none⟩)] },unk,.pointer (some ⟨66,0,none⟩),unk,unk,.int .u32 (IntKind.u32.wrap ((↑m : Int) - (1 : Int))),unk,unk,unk,unk,unk,unk,unk,unk,unk],[Value.int .u32 (↑m),.bool (decide ((↑m : Int) > (0 : Int))),.bool (decide ((↑m : Int) > (0 : Int))),.bool b,.bool b,.int .u32 (↑m),.int .u32 (IntKind.u32.wrap ((↑m : Int) - (1 : Int))),.func (Fn.func 46) { toList:=[] } { toList:=[Value.pointer (some ⟨70,0,none⟩),.pointer (some ⟨64,0,none⟩)] },undef,unk,unk,unk,unk,unk,unk,unk]],s:={ n:=78,h:=[(77,⟨true,some (77,1),u32s acc ++ [Value.int .u32 (↑(numV 4 off bs))],none⟩),(76,⟨true,none,[Value.int .u32 (↑(numV 4 off bs))],none⟩),(66,⟨true,none,[Value.bool (b && numIs 4 off bs)],none⟩),(67,⟨true,none,[rnV (lift 69 75 [65,66,67,68,73]) 3 (rdV 67 (numO 4 off bs) bs 69)],none⟩),(64,{ rw:=false,op:=none,cells:=[Value.func (Fn.func 40) { toList:=[] } { toList:=[Value.pointer (some ⟨65,0,none⟩),.pointer (some ⟨66,0,none⟩)] }],it:=none : Sy.Blk }),(65,⟨false,none,[Value.pointer (some ⟨67,0,none⟩)],none⟩),(68,⟨false,some (0,0),u8s bs,none⟩),(70,⟨true,none,[y0,y1,y2,y3,y4,y5,.slice (some ⟨77,0,none⟩) (acc.length + 1) 9223372036854775885],none⟩)],lo:=[(77,acc.length + 1),(75,bs.length - numO 4 off bs),(73,bs.length - off),(74,acc.length)],esc:=0,T:=[],k:=3,O:=bif (lenT (u32s acc)).beq (acc.length * 1) then bif ((acc.length + 1) * 4).ble 1099511627776 && (acc.length + 1).blt 4611686018427387904 then (((True ∧ decide ((↑m : Int) > (0 : Int)) = true) ∧ decide ((↑m : Int) > (0 : Int)) = true) ∧ b = true) ∧ NumOk 4 off bs ∧ (rr (Value.int .i64 4) ∧ rr (Value.pointer (some ⟨65,0,none⟩)) ∧ rr (Value.pointer (some ⟨66,0,none⟩)) ∧ True) ∧ ((tt ∧ tt ∧ tt ∧ tt ∧ tt ∧ True ∧ rr [Value.pointer (some ⟨67,0,none⟩)]) ∧ (tt ∧ tt ∧ tt ∧ tt ∧ tt ∧ True ∧ rr [Value.bool b]) ∧ (tt ∧ (okV (fun l => l.blt 69) 3 (rdV 67 off bs 68) && true) = true ∧ tt ∧ tt ∧ tt ∧ True ∧ [rdV 68 off bs 73] = [rnV (lift 69 75 [65,66,67,68,73]) 3 (rdV 67 off bs 68)]) ∧ (tt ∧ (u8s bs).all (okV (fun l => l.blt 69) 3) = true ∧ tt ∧ tt ∧ tt ∧ True ∧ u8s bs = List.map (rnV (lift 69 75 [65,66,67,68,73]) 3) (u8s bs)) ∧ True) ∧ (tt ∧ bs.length - off ≤ bs.length - off) ∧ True else False else False : St } : Fr }):=by kernel_rfl
theorem ms_e1 (y0 : Value) (y1 : Value) (y2 : Value) (y3 : Value) (y4 : Value) (y5 : Value) (bs : List UInt8) (acc : List Nat) (off : Nat) (m : Nat) (b : Bool) : evC Try.prog (evF Try.prog (baseC 3 (selNcc 67 68 [] bs)) noLoop 100 5) (noLoop 42) 25 100 (loopOf Try.prog 42 0) (Sf.frT 25 (msI1 y0 y1 y2 y3 y4 y5 bs acc off m b) [(0,false),(1,false)]) = some (Exit.exit 0,{ e:=[[unk,.func (Fn.func 46) { toList:=[] } { toList:=[Value.pointer (some ⟨70,0,none⟩),.pointer (some ⟨64,0,none⟩)] },unk,.pointer (some ⟨66,0,none⟩),unk,unk,.int .u32 (↑m),unk,unk,unk,unk,unk,unk,unk,unk,unk],[Value.int .u32 (↑m),.bool (decide ((↑m : Int) > (0 : Int))),.bool (decide ((↑m : Int) > (0 : Int))),undef,.bool false,unk,unk,unk,unk,unk,unk,unk,unk,unk,unk,unk]],s:={ n:=75,h:=[(64,{ rw:=false,op:=none,cells:=[Value.func (Fn.func 40) { toList:=[] } { toList:=[Value.pointer (some ⟨65,0,none⟩),.pointer (some ⟨66,0,none⟩)] }],it:=none : Sy.Blk }),(65,⟨false,none,[Value.pointer (some ⟨67,0,none⟩)],none⟩),(66,⟨true,none,[Value.bool b],none⟩),(67,⟨true,none,[rdV 68 off bs 73],none⟩),(68,⟨false,some (0,0),u8s bs,none⟩),(70,⟨true,none,[y0,y1,y2,y3,y4,y5,.slice (some ⟨74,0,none⟩) acc.length 9223372036854775882],none⟩),(74,⟨true,some (74,1),u32s acc,none⟩)],lo:=[(73,bs.length - off),(74,acc.length)],esc:=0,T:=[],k:=2,O:=(True ∧ decide ((↑m : Int) > (0 : Int)) = false) ∧ decide ((↑m : Int) > (0 : Int)) = false : St } : Fr }):=by kernel_rfl
theorem ms_e2 (y0 : Value) (y1 : Value) (y2 : Value) (y3 : Value) (y4 : Value) (y5 : Value) (bs : List UInt8) (acc : List Nat) (off : Nat) (m : Nat) (b : Bool) : evC Try.prog (evF Try.prog (baseC 3 (selNcc 67 68 [] bs)) noLoop 100 5) (noLoop 42) 25 100 (loopOf Try.prog 42 0) (Sf.frT 25 (msI1 y0 y1 y2 y3 y4 y5 bs acc off m b) [(0,true),(1,true),(2,false)]) = some (Exit.exit 0,{ e:=[[unk,.func (Fn.func 46) { toList:=[] } { toList:=[Value.pointer (some ⟨70,0,none⟩),.pointer (some ⟨64,0,none⟩)] },unk,.pointer (some ⟨66,0,none⟩),unk,unk,.int .u32 (↑m),unk,unk,unk,unk,unk,unk,unk,unk,unk],[Value.int .u32 (↑m),.bool (decide ((↑m : Int) > (0 : Int))),.bool (decide ((↑m : Int) > (0 : Int))),.bool b,.bool b,unk,unk,unk,unk,unk,unk,unk,unk,unk,unk,unk]],s:={ n:=75,h:=[(64,{ rw:=false,op:=none,cells:=[Value.func (Fn.func 40) { toList:=[] } { toList:=[Value.pointer (some ⟨65,0,none⟩),.pointer (some ⟨66,0,none⟩)] }],it:=none : Sy.Blk }),(65,⟨false,none,[Value.pointer (some ⟨67,0,none⟩)],none⟩),(66,⟨true,none,[Value.bool b],none⟩),(67,⟨true,none,[rdV 68 off bs 73],none⟩),(68,⟨false,some (0,0),u8s bs,none⟩),(70,⟨true,none,[y0,y1,y2,y3,y4,y5,.slice (some ⟨74,0,none⟩) acc.length 9223372036854775882],none⟩),(74,⟨true,some (74,1),u32s acc,none⟩)],lo:=[(73,bs.length - off),(74,acc.length)],esc:=0,T:=[],k:=3,O:=((True ∧ decide ((↑m : Int) > (0 : Int)) = true) ∧ decide ((↑m : Int) > (0 : Int)) = true) ∧ b = false : St } : Fr }):=by kernel_rfl
theorem ms_cok {y0 y1 y2 y3 y4 y5 : Value} {p : Nat → Bool} (hy : YOk y0 y1 y2 y3 y4 y5) (h1 : p 71 = true) (h2 : p 72 = true) (c : Value) (hc : okV p 3 c = true) : ∀ v ∈ ([y0,y1,y2,y3,y4,y5,c] : List Value),okV p 3 v = true:=by
 have h:=hy.to h1 h2
 intro v hv
 simp only [rr, tt, List.mem_cons,List.not_mem_nil,or_false] at hv h
 rcases hv with rfl | rfl | rfl | rfl | rfl | rfl | rfl <;> first | exact hc | exact h _ (by simp)
theorem ms_crn {y0 y1 y2 y3 y4 y5 : Value} {σ : Nat → Nat} (hy : YOk y0 y1 y2 y3 y4 y5) (h1 : σ 71 = 71) (h2 : σ 72 = 72) (c c' : Value) (hc : rnV σ 3 c = c') : ([y0,y1,y2,y3,y4,y5,c] : List Value).map (rnV σ 3) = [y0,y1,y2,y3,y4,y5,c']:=by
 have h:=hy.rn h1 h2
 have e0:=h y0 (by simp)
 have e1:=h y1 (by simp)
 have e2:=h y2 (by simp)
 have e3:=h y3 (by simp)
 have e4:=h y4 (by simp)
 have e5:=h y5 (by simp)
 simp only [rr, tt, List.map_cons,List.map_nil,e0,e1,e2,e3,e4,e5,hc]
theorem ms_wf0 (y0 y1 y2 y3 y4 y5 : Value) (bs : List UInt8) (off m : Nat) (b : Bool) (hy : YOk y0 y1 y2 y3 y4 y5) : (msI0 y0 y1 y2 y3 y4 y5 bs off m b).Wf :=
 ⟨by show NG ≤ 74; decide,Sf.Ok.mk' 3 ⟨⟨rfl,rfl,fun v hv => okV_bnd 3 v (List.all_eq_true.1 (show ([ncG] : List Value).all (okV (fun l => Nat.blt l 74) 3) = true from by kernel_rfl) v hv)⟩,⟨rfl,rfl,fun v hv => okV_bnd 3 v (List.all_eq_true.1 (show ([.pointer (some ⟨67,0,none⟩)] : List Value).all (okV (fun l => Nat.blt l 74) 3) = true from by kernel_rfl) v hv)⟩,
   ⟨rfl,rfl,fun v hv => by obtain rfl:=List.mem_singleton.1 hv; exact bnd_flat0 _ rfl⟩,⟨rfl,rfl,fun v hv => by obtain rfl:=List.mem_singleton.1 hv; exact rdV_bnd rfl rfl⟩,⟨rfl,rfl,flat_bnd (u8s_flat bs)⟩,⟨rfl,rfl,fun v hv => okV_bnd 3 v (ms_cok hy rfl rfl _ rfl v hv)⟩,trivial⟩ rfl (fun x hx => by
  have : (msI0 y0 y1 y2 y3 y4 y5 bs off m b).e.all (fun x => okV (fun l => Nat.blt l 74) 3 x.2) = true:=by kernel_rfl
  exact List.all_eq_true.1 this x hx)⟩
theorem ms_wf1 (y0 y1 y2 y3 y4 y5 : Value) (bs : List UInt8) (acc : List Nat) (off m : Nat) (b : Bool) (hy : YOk y0 y1 y2 y3 y4 y5) : (msI1 y0 y1 y2 y3 y4 y5 bs acc off m b).Wf :=
 ⟨by show NG ≤ 75; decide,Sf.Ok.mk' 3 ⟨⟨rfl,rfl,fun v hv => okV_bnd 3 v (List.all_eq_true.1 (show ([ncG] : List Value).all (okV (fun l => Nat.blt l 75) 3) = true from by kernel_rfl) v hv)⟩,⟨rfl,rfl,fun v hv => okV_bnd 3 v (List.all_eq_true.1 (show ([.pointer (some ⟨67,0,none⟩)] : List Value).all (okV (fun l => Nat.blt l 75) 3) = true from by kernel_rfl) v hv)⟩,
   ⟨rfl,rfl,fun v hv => by obtain rfl:=List.mem_singleton.1 hv; exact bnd_flat0 _ rfl⟩,⟨rfl,rfl,fun v hv => by obtain rfl:=List.mem_singleton.1 hv; exact rdV_bnd rfl rfl⟩,⟨rfl,rfl,flat_bnd (u8s_flat bs)⟩,⟨rfl,rfl,fun v hv => okV_bnd 3 v (ms_cok hy rfl rfl _ (sl_ok rfl) v hv)⟩,⟨rfl,rfl,flat_bnd (u32s_flat acc)⟩,trivial⟩ rfl (fun x hx => by
  have : (msI1 y0 y1 y2 y3 y4 y5 bs acc off m b).e.all (fun x => okV (fun l => Nat.blt l 75) 3 x.2) = true:=by kernel_rfl
  exact List.all_eq_true.1 this x hx)⟩
theorem msF_ok (y0 y1 y2 y3 y4 y5 : Value) (bs : List UInt8) (acc : List Nat) (off : Nat) (b : Bool) (hy : YOk y0 y1 y2 y3 y4 y5) (q : Nat → Bool) (h66 : q 66 = true) (h67 : q 67 = true) (h68 : q 68 = true) (h70 : q 70 = true) (h71 : q 71 = true) (h72 : q 72 = true) (h75 : q 75 = true) (h76 : q 76 = true) : (msF y0 y1 y2 y3 y4 y5 bs acc off b).Ok q :=
 ⟨⟨⟨h66,rfl,fun v hv => by obtain rfl:=List.mem_singleton.1 hv; exact bnd_flat0 _ rfl⟩,⟨h67,rfl,fun v hv => by obtain rfl:=List.mem_singleton.1 hv; exact rdV_bnd h68 h75⟩,⟨h70,rfl,fun v hv => okV_bnd 3 v (ms_cok hy h71 h72 _ (sl_ok h76) v hv)⟩,⟨h76,h76,flat_bnd (u32s_flat acc)⟩,trivial⟩,by simp [msF,h75,h76],fun x hx => by cases hx⟩
def msσ0 (l : Nat) : Nat:=if l = 73 then 74 else if l = 74 then 76 else l
def msσ1 (l : Nat) : Nat:=if l = 73 then 75 else if l = 74 then 77 else l
def msτ (l : Nat) : Nat:=if l = 75 then 73 else if l = 76 then 74 else l
theorem ms_step_n0 (y0 y1 y2 y3 y4 y5 : Value) (bs : List UInt8)  (k off : Nat) (fa : List Nat) (fo : Nat) (fb : Bool) (hy : YOk y0 y1 y2 y3 y4 y5) (ho : off ≤ 1000000000) (hl : bs.length ≤ 1000000000) (ha : ([] : List Nat).length + k + 1 ≤ 100000) :
  ∃ g,evC Try.prog (evF Try.prog (baseC 3 (selNcc 67 68 [(74,off,true,73)] bs)) noLoop 100 5) (noLoop 42) 25 100 (loopOf Try.prog 42 0) ((msI0 y0 y1 y2 y3 y4 y5 bs off (k + 1) true).frT 25 [(0,true),(1,true),(2,true),(3,false)]) = some (.normal,g) ∧ g.s.O ∧ Sf.Leads 3 (fun l => Nat.blt l 75) msσ0 (msI0 y0 y1 y2 y3 y4 y5 bs off (k + 1) true) g (msI1 y0 y1 y2 y3 y4 y5 bs (([] : List Nat) ++ [numV 4 off bs]) (numO 4 off bs) k (numIs 4 off bs)) (msF y0 y1 y2 y3 y4 y5 bs fa fo fb):=by
 have hh:=ms_n0 y0 y1 y2 y3 y4 y5 bs off (k + 1) true
 have l1 : lift 69 74 [65,66,67,68,73] 67 = 68:=rfl
 have l2 : lift 69 74 [65,66,67,68,73] 69 = 74:=rfl
 have l3 : lift 69 74 [65,66,67,68,73] 68 = 73:=rfl
 simp only [rr, tt, rdV_rn,l1,l2,l3,u32s_app1,lenT_eq,u32n_len,Nat.mul_one,u32s_one,Bool.true_and] at hh
 refine ⟨_,hh,?_,?_⟩
 ·have e2 : okV (fun l => Nat.blt l 69) 3 (rdV 67 off bs 68) = true:=rdV_ok rfl rfl
  have f5 : ∀ xs p d,(u8s xs).all (okV p d) = true:=fun xs _ _ => flat_all (u8s_flat xs)
  have f6 : ∀ xs σ d,(u8s xs).map (rnV σ d) = u8s xs:=fun xs _ _ => flat_map (u8s_flat xs)
  have m1 : decide (((k + 1 : Nat) : Int) > (0 : Int)) = true:=by simp
  have hn : NumOk 4 off bs:=⟨.inr (.inr rfl),ho,hl⟩
  simp (disch:=omega) only [rr, tt, e2,f5,f6,m1,hn,ble_t,blt_t,beq_t,u32n_len,oneC_u32s,Bool.and_self,cond_true,and_true,true_and,and_self,Nat.le_refl]
 ·refine ⟨fun l hl => ?_,⟨⟨rfl,by kernel_rfl,rfl,rfl,rfl,trivial,by kernel_rfl⟩,⟨rfl,by kernel_rfl,rfl,rfl,rfl,trivial,by kernel_rfl⟩,⟨rfl,by kernel_rfl,rfl,rfl,rfl,trivial,by kernel_rfl⟩,⟨rfl,by simp only [rr, tt, List.all_cons,List.all_nil,Bool.and_true]; exact rdV_ok rfl rfl,rfl,rfl,rfl,trivial,by simp only [rr, tt, List.map_cons,List.map_nil,rdV_rn]; rfl⟩,⟨rfl,flat_all (u8s_flat _),rfl,rfl,rfl,trivial,(flat_map (u8s_flat _)).symm⟩,
    ⟨rfl,List.all_eq_true.2 (ms_cok hy rfl rfl _ (sl_ok rfl)),rfl,rfl,rfl,trivial,((ms_crn hy rfl rfl _ _ (sl_rn msσ0 74 _)).trans (by rfl)).symm⟩,⟨rfl,flat_all (u32s_flat _),rfl,rfl,rfl,trivial,(flat_map (u32s_flat _)).symm⟩,trivial⟩,rfl,⟨⟨rfl,Nat.le_refl _⟩,⟨rfl,(Nat.le_refl 1)⟩,trivial⟩,
   ⟨⟨by kernel_rfl,by kernel_rfl⟩,⟨by kernel_rfl,by kernel_rfl⟩,⟨rfl,?_⟩,trivial⟩,by show 74 ≤ 75; omega,fun l hl => blt_no hl,msF_ok y0 y1 y2 y3 y4 y5 bs fa fo fb hy _ rfl rfl rfl rfl rfl rfl rfl rfl,?_⟩
  ·unfold msσ0; have : NG ≤ 66:=by decide
   rw [if_neg (by omega),if_neg (by omega)]
  ·refine Eq.trans (b:=Value.int .u32 (IntKind.u32.wrap (((k + 1 : Nat) : Int) - 1))) (by kernel_rfl) ?_
   rw [show (((k + 1 : Nat) : Int) - 1) = ((k : Nat) : Int) by omega,u32_nat k (by omega)]; rfl
  ·intro x hx hrw
   simp only [rr, tt, msI1,List.mem_cons,List.not_mem_nil,or_false] at hx
   rcases hx with rfl | rfl | rfl | rfl | rfl | rfl | rfl <;> first | exact .inl rfl | cases hrw
theorem ms_step_n1 (y0 y1 y2 y3 y4 y5 : Value) (bs : List UInt8) (acc : List Nat) (k off : Nat) (fa : List Nat) (fo : Nat) (fb : Bool) (hy : YOk y0 y1 y2 y3 y4 y5) (ho : off ≤ 1000000000) (hl : bs.length ≤ 1000000000) (ha : acc.length + k + 1 ≤ 100000) :
  ∃ g,evC Try.prog (evF Try.prog (baseC 3 (selNcc 67 68 [(75,off,true,73)] bs)) noLoop 100 5) (noLoop 42) 25 100 (loopOf Try.prog 42 0) ((msI1 y0 y1 y2 y3 y4 y5 bs acc off (k + 1) true).frT 25 [(0,true),(1,true),(2,true)]) = some (.normal,g) ∧ g.s.O ∧ Sf.Leads 3 (fun l => Nat.blt l 75) msσ1 (msI1 y0 y1 y2 y3 y4 y5 bs acc off (k + 1) true) g (msI1 y0 y1 y2 y3 y4 y5 bs (acc ++ [numV 4 off bs]) (numO 4 off bs) k (numIs 4 off bs)) (msF y0 y1 y2 y3 y4 y5 bs fa fo fb):=by
 have hh:=ms_n1 y0 y1 y2 y3 y4 y5 bs acc off (k + 1) true
 have l1 : lift 69 75 [65,66,67,68,73] 67 = 68:=rfl
 have l2 : lift 69 75 [65,66,67,68,73] 69 = 75:=rfl
 have l3 : lift 69 75 [65,66,67,68,73] 68 = 73:=rfl
 simp only [rr, tt, rdV_rn,l1,l2,l3,u32s_app1,lenT_eq,u32n_len,Nat.mul_one,Bool.true_and] at hh
 refine ⟨_,hh,?_,?_⟩
 ·have e2 : okV (fun l => Nat.blt l 69) 3 (rdV 67 off bs 68) = true:=rdV_ok rfl rfl
  have f5 : ∀ xs p d,(u8s xs).all (okV p d) = true:=fun xs _ _ => flat_all (u8s_flat xs)
  have f6 : ∀ xs σ d,(u8s xs).map (rnV σ d) = u8s xs:=fun xs _ _ => flat_map (u8s_flat xs)
  have m1 : decide (((k + 1 : Nat) : Int) > (0 : Int)) = true:=by simp
  have hn : NumOk 4 off bs:=⟨.inr (.inr rfl),ho,hl⟩
  simp (disch:=omega) only [rr, tt, e2,f5,f6,m1,hn,ble_t,blt_t,beq_t,u32n_len,oneC_u32s,Bool.and_self,cond_true,and_true,true_and,and_self,Nat.le_refl]
 ·refine ⟨fun l hl => ?_,⟨⟨rfl,by kernel_rfl,rfl,rfl,rfl,trivial,by kernel_rfl⟩,⟨rfl,by kernel_rfl,rfl,rfl,rfl,trivial,by kernel_rfl⟩,⟨rfl,by kernel_rfl,rfl,rfl,rfl,trivial,by kernel_rfl⟩,⟨rfl,by simp only [rr, tt, List.all_cons,List.all_nil,Bool.and_true]; exact rdV_ok rfl rfl,rfl,rfl,rfl,trivial,by simp only [rr, tt, List.map_cons,List.map_nil,rdV_rn]; rfl⟩,⟨rfl,flat_all (u8s_flat _),rfl,rfl,rfl,trivial,(flat_map (u8s_flat _)).symm⟩,
    ⟨rfl,List.all_eq_true.2 (ms_cok hy rfl rfl _ (sl_ok rfl)),rfl,rfl,rfl,trivial,((ms_crn hy rfl rfl _ _ (sl_rn msσ1 74 _)).trans (by simp only [rr, tt, List.length_append,List.length_cons,List.length_nil]; rfl)).symm⟩,⟨rfl,flat_all (u32s_flat _),rfl,rfl,rfl,trivial,(flat_map (u32s_flat _)).symm⟩,trivial⟩,rfl,⟨⟨rfl,Nat.le_refl _⟩,⟨rfl,by show (acc ++ [numV 4 off bs]).length ≤ acc.length + 1; simp⟩,trivial⟩,
   ⟨⟨by kernel_rfl,by kernel_rfl⟩,⟨by kernel_rfl,by kernel_rfl⟩,⟨rfl,?_⟩,trivial⟩,by show 75 ≤ 75; omega,fun l hl => blt_no hl,msF_ok y0 y1 y2 y3 y4 y5 bs fa fo fb hy _ rfl rfl rfl rfl rfl rfl rfl rfl,?_⟩
  ·unfold msσ1; have : NG ≤ 66:=by decide
   rw [if_neg (by omega),if_neg (by omega)]
  ·refine Eq.trans (b:=Value.int .u32 (IntKind.u32.wrap (((k + 1 : Nat) : Int) - 1))) (by kernel_rfl) ?_
   rw [show (((k + 1 : Nat) : Int) - 1) = ((k : Nat) : Int) by omega,u32_nat k (by omega)]; rfl
  ·intro x hx hrw
   simp only [rr, tt, msI1,List.mem_cons,List.not_mem_nil,or_false] at hx
   rcases hx with rfl | rfl | rfl | rfl | rfl | rfl | rfl <;> first | exact .inl rfl | cases hrw
theorem ms_step_e1 (y0 y1 y2 y3 y4 y5 : Value) (bs : List UInt8) (acc : List Nat) (off m : Nat) (b : Bool) (hy : YOk y0 y1 y2 y3 y4 y5) (hm : m = 0) :
  ∃ g,evC Try.prog (evF Try.prog (baseC 3 (selNcc 67 68 [] bs)) noLoop 100 5) (noLoop 42) 25 100 (loopOf Try.prog 42 0) ((msI1 y0 y1 y2 y3 y4 y5 bs acc off m b).frT 25 [(0,false),(1,false)]) = some (.exit 0,g) ∧ g.s.O ∧ Sf.Leads 3 (fun l => Nat.blt l 77) msτ (msI1 y0 y1 y2 y3 y4 y5 bs acc off m b) g (msF y0 y1 y2 y3 y4 y5 bs acc off b) (msF y0 y1 y2 y3 y4 y5 bs acc off b):=by
 refine ⟨_,ms_e1 y0 y1 y2 y3 y4 y5 bs acc off m b,?_,?_⟩
 ·subst hm; simp
 ·refine ⟨fun l hl => ?_,⟨⟨rfl,by kernel_rfl,rfl,rfl,rfl,trivial,by kernel_rfl⟩,⟨rfl,by simp only [rr, tt, List.all_cons,List.all_nil,Bool.and_true]; exact rdV_ok rfl rfl,rfl,rfl,rfl,trivial,by simp only [rr, tt, List.map_cons,List.map_nil,rdV_rn]; rfl⟩,
    ⟨rfl,List.all_eq_true.2 (ms_cok hy rfl rfl _ (sl_ok rfl)),rfl,rfl,rfl,trivial,(ms_crn hy rfl rfl _ _ (sl_rn msτ 76 _)).symm⟩,⟨rfl,flat_all (u32s_flat _),rfl,rfl,rfl,trivial,(flat_map (u32s_flat _)).symm⟩,trivial⟩,rfl,⟨⟨rfl,Nat.le_refl _⟩,⟨rfl,Nat.le_refl _⟩,trivial⟩,
   trivial,by show 75 ≤ 77; omega,fun l hl => blt_no hl,msF_ok y0 y1 y2 y3 y4 y5 bs acc off b hy _ rfl rfl rfl rfl rfl rfl rfl rfl,?_⟩
  ·unfold msτ; have : NG ≤ 66:=by decide
   rw [if_neg (by omega),if_neg (by omega)]
  ·intro x hx hrw
   simp only [rr, tt, msF,List.mem_cons,List.not_mem_nil,or_false] at hx
   rcases hx with rfl | rfl | rfl | rfl <;> cases hrw
theorem ms_step_e2 (y0 y1 y2 y3 y4 y5 : Value) (bs : List UInt8) (acc : List Nat) (off m : Nat) (b : Bool) (hy : YOk y0 y1 y2 y3 y4 y5) (hm : 0 < m) (hb : b = false) :
  ∃ g,evC Try.prog (evF Try.prog (baseC 3 (selNcc 67 68 [] bs)) noLoop 100 5) (noLoop 42) 25 100 (loopOf Try.prog 42 0) ((msI1 y0 y1 y2 y3 y4 y5 bs acc off m b).frT 25 [(0,true),(1,true),(2,false)]) = some (.exit 0,g) ∧ g.s.O ∧ Sf.Leads 3 (fun l => Nat.blt l 77) msτ (msI1 y0 y1 y2 y3 y4 y5 bs acc off m b) g (msF y0 y1 y2 y3 y4 y5 bs acc off b) (msF y0 y1 y2 y3 y4 y5 bs acc off b):=by
 refine ⟨_,ms_e2 y0 y1 y2 y3 y4 y5 bs acc off m b,?_,?_⟩
 ·have m1 : decide ((m : Int) > (0 : Int)) = true:=by simp; omega
  simp only [rr, tt, m1,hb,and_self,true_and]
 ·refine ⟨fun l hl => ?_,⟨⟨rfl,by kernel_rfl,rfl,rfl,rfl,trivial,by kernel_rfl⟩,⟨rfl,by simp only [rr, tt, List.all_cons,List.all_nil,Bool.and_true]; exact rdV_ok rfl rfl,rfl,rfl,rfl,trivial,by simp only [rr, tt, List.map_cons,List.map_nil,rdV_rn]; rfl⟩,
    ⟨rfl,List.all_eq_true.2 (ms_cok hy rfl rfl _ (sl_ok rfl)),rfl,rfl,rfl,trivial,(ms_crn hy rfl rfl _ _ (sl_rn msτ 76 _)).symm⟩,⟨rfl,flat_all (u32s_flat _),rfl,rfl,rfl,trivial,(flat_map (u32s_flat _)).symm⟩,trivial⟩,rfl,⟨⟨rfl,Nat.le_refl _⟩,⟨rfl,Nat.le_refl _⟩,trivial⟩,
   trivial,by show 75 ≤ 77; omega,fun l hl => blt_no hl,msF_ok y0 y1 y2 y3 y4 y5 bs acc off b hy _ rfl rfl rfl rfl rfl rfl rfl rfl,?_⟩
  ·unfold msτ; have : NG ≤ 66:=by decide
   rw [if_neg (by omega),if_neg (by omega)]
  ·intro x hx hrw
   simp only [rr, tt, msF,List.mem_cons,List.not_mem_nil,or_false] at hx
   rcases hx with rfl | rfl | rfl | rfl <;> cases hrw
def ms_P (bs : List UInt8) (fa : List Nat) (fo : Nat) (fb : Bool) (x : List Nat × Nat × Nat × Bool) : Prop :=
 (x.1 ++ (contC bs x.2.2.1 x.2.1 x.2.2.2).1 = fa ∧ (contC bs x.2.2.1 x.2.1 x.2.2.2).2 = (fo,fb)) ∧ x.2.1 ≤ 1000000000 ∧ x.1.length + x.2.2.1 ≤ 100000 ∧ (x.1 = [] → 0 < x.2.2.1 ∧ x.2.2.2 = true)
def ms_I (y0 y1 y2 y3 y4 y5 : Value) (bs : List UInt8) : List Nat × Nat × Nat × Bool → Sf
 | ([],off,m,b) => msI0 y0 y1 y2 y3 y4 y5 bs off m b
 | (a :: l,off,m,b) => msI1 y0 y1 y2 y3 y4 y5 bs (a :: l) off m b
theorem ms_loop (y0 y1 y2 y3 y4 y5 : Value) (bs : List UInt8) (fa : List Nat) (fo : Nat) (fb : Bool) (hy : YOk y0 y1 y2 y3 y4 y5) (hl : bs.length ≤ 1000000000) :
  ∀ x : { x : List Nat × Nat × Nat × Bool // ms_P bs fa fo fb x },LoopOk Try.prog 25 (loopOf Try.prog 42 0) ((ms_I y0 y1 y2 y3 y4 y5 bs x.1).fr 25) (.exit 0) ((msF y0 y1 y2 y3 y4 y5 bs fa fo fb).fr 25):=by
 refine loop_okC (L:=100) (noLoop_any _ _ 42) (fun _ h => h) (X:={ x : List Nat × Nat × Nat × Bool // ms_P bs fa fo fb x }) (fun x => ms_I y0 y1 y2 y3 y4 y5 bs x.1) (fun _ => msF y0 y1 y2 y3 y4 y5 bs fa fo fb) (fun _ => .exit 0) (fun x => x.1.2.2.1) (fun x => ?_) ?_
 ·obtain ⟨⟨acc,off,m,b⟩,hx⟩:=x
  cases acc with
  | nil => exact ms_wf0 y0 y1 y2 y3 y4 y5 bs off m b hy
  | cons a l => exact ms_wf1 y0 y1 y2 y3 y4 y5 bs (a :: l) off m b hy
 ·rintro ⟨⟨acc,off,m,b⟩,⟨h1,h2⟩,ho,ha,h0⟩
  have next : ∀ k,m = k + 1 → b = true → ms_P bs fa fo fb (acc ++ [numV 4 off bs],numO 4 off bs,k,numIs 4 off bs):=by
   rintro k rfl rfl
   simp only [] at h1 h2 ha
   have hs:=contC_step bs k off
   rw [hs] at h1 h2
   refine ⟨⟨?_,h2⟩,numO_le ho hl (by omega),by simp; omega,fun h => by simp at h⟩
   rw [List.append_assoc]; exact h1
  cases acc with
  | nil =>
   obtain ⟨hm,rfl⟩:=h0 rfl
   obtain ⟨k,rfl⟩ : ∃ k,m = k + 1:=⟨m - 1,by simp only [] at hm; omega⟩
   obtain ⟨g,e1,e2,e3⟩:=ms_step_n0 y0 y1 y2 y3 y4 y5 bs k off fa fo fb hy ho hl (by simp only [] at ha; exact ha)
   exact ⟨_,_,.normal,g,3,_,_,run_ok (L:=100) i_names (baseC_ok (selNcc_ok _ _ _ _)) (noLoop_ok _) 5,e1,e2,.inl ⟨rfl,⟨_,next k rfl rfl⟩,by show k < k + 1; omega,rfl,rfl,e3⟩⟩
  | cons a l =>
   by_cases hm : m = 0
   ·subst hm
    have hc : contC bs 0 off b = ([],off,b):=by cases b <;> rfl
    simp only [rr, tt, hc,List.append_nil] at h1 h2
    simp only [rr, tt, Prod.mk.injEq] at h2
    obtain ⟨rfl,rfl⟩:=h2
    subst h1
    obtain ⟨g,e1,e2,e3⟩:=ms_step_e1 y0 y1 y2 y3 y4 y5 bs (a :: l) off 0 b hy rfl
    exact ⟨_,_,.exit 0,g,3,_,_,run_ok (L:=100) i_names (baseC_ok (selNcc_ok _ _ _ _)) (noLoop_ok _) 5,e1,e2,.inr ⟨by simp,rfl,e3⟩⟩
   ·cases b with
    | false =>
     have hc : contC bs m off false = ([],off,false):=rfl
     simp only [rr, tt, hc,List.append_nil] at h1 h2
     simp only [rr, tt, Prod.mk.injEq] at h2
     obtain ⟨rfl,rfl⟩:=h2
     subst h1
     obtain ⟨g,e1,e2,e3⟩:=ms_step_e2 y0 y1 y2 y3 y4 y5 bs (a :: l) off m false hy (by omega) rfl
     exact ⟨_,_,.exit 0,g,3,_,_,run_ok (L:=100) i_names (baseC_ok (selNcc_ok _ _ _ _)) (noLoop_ok _) 5,e1,e2,.inr ⟨by simp,rfl,e3⟩⟩
    | true =>
     obtain ⟨k,rfl⟩ : ∃ k,m = k + 1:=⟨m - 1,by omega⟩
     obtain ⟨g,e1,e2,e3⟩:=ms_step_n1 y0 y1 y2 y3 y4 y5 bs (a :: l) k off fa fo fb hy ho hl (by simp only [] at ha; omega)
     exact ⟨_,_,.normal,g,3,_,_,run_ok (L:=100) i_names (baseC_ok (selNcc_ok _ _ _ _)) (noLoop_ok _) 5,e1,e2,.inl ⟨rfl,⟨_,next k rfl rfl⟩,by show k < k + 1; omega,rfl,rfl,e3⟩⟩
def ms_Ent (y0 y1 y2 y3 y4 y5 : Value) (bs : List UInt8) (off m : Nat) (hy : YOk y0 y1 y2 y3 y4 y5) (hl : bs.length ≤ 1000000000) (ho : off ≤ 1000000000) (hm : 0 < m ∧ m ≤ 100000) : Ent Try.prog :=
 entC Try.prog 42 0 25 (msI0 y0 y1 y2 y3 y4 y5 bs off m true) (.exit 0) (msF y0 y1 y2 y3 y4 y5 bs (rCa bs m off) (rCo bs m off) (rCb bs m off)) (by kernel_rfl) (by kernel_rfl)
  (ms_loop y0 y1 y2 y3 y4 y5 bs _ _ _ hy hl ⟨([],off,m,true),⟨rfl,rfl⟩,ho,by simp; exact hm.2,fun _ => ⟨hm.1,rfl⟩⟩)
end Go.Proofs.Ytdljpnebpoaeiaa
namespace Go.Proofs.Ytdljpnebpoaeiaa
open Go.RowKit
open Sy
section
variable (off : Nat) (bs : List UInt8)
def rO1 : Nat:=numO 4 off bs
def rO2 : Nat:=numO 4 (rO1 off bs) bs
def rO3 : Nat:=numO 4 (rO2 off bs) bs
def rO4 : Nat:=numO 1 (rO3 off bs) bs
def rO5 : Nat:=numO 2 (rO4 off bs) bs
def rO6 : Nat:=numO 2 (rO5 off bs) bs
def rB1 : Bool:=numIs 4 off bs
def rB2 : Bool:=rB1 off bs && numIs 4 (rO1 off bs) bs
def rB3 : Bool:=rB2 off bs && numIs 4 (rO2 off bs) bs
def rB4 : Bool:=rB3 off bs && numIs 1 (rO3 off bs) bs
def rKd : Bool:=decide ((numV 1 (rO3 off bs) bs : Int) ≤ 1)
def rI : Bool:=((rB4 off bs && rKd off bs) && numIs 2 (rO4 off bs) bs) && numIs 2 (rO5 off bs) bs
def rRl : Rl:=⟨numV 4 off bs,((numV 1 (rO3 off bs) bs : Int) == (1 : Int)),numV 4 (rO1 off bs) bs,numV 4 (rO2 off bs) bs,numV 2 (rO4 off bs) bs,numV 2 (rO5 off bs) bs⟩
end
theorem numV2_lt {off : Nat} {bs : List UInt8} : numV 2 off bs < 65536:=by
 unfold numV
 cases numIs 2 off bs
 ·show 0 < _; omega
 ·exact leV_lt 2 _
theorem w16 (n : Nat) (h : n < 65536) : IntKind.u16.wrap (n : Int) = (n : Int):=IntWalk.u16_in _ (by omega)
theorem rRl_ok (off : Nat) (bs : List UInt8) : RlOk (rRl off bs):=⟨numV_lt,numV_lt,numV_lt,numV2_lt,numV2_lt⟩
theorem rels_app1 (acc : List Rl) (off : Nat) (bs : List UInt8) : rels acc ++ [Value.int IntKind.u32 (numV 4 off bs : Int),Value.bool ((numV 1 (rO3 off bs) bs : Int) == (1 : Int)),Value.int IntKind.u32 (numV 4 (rO1 off bs) bs : Int),Value.int IntKind.u32 (numV 4 (rO2 off bs) bs : Int),Value.int IntKind.u16 (numV 2 (rO4 off bs) bs : Int),Value.int IntKind.u16 (numV 2 (rO5 off bs) bs : Int)] = rels (acc ++ [rRl off bs]):=by
 unfold rels
 rw [List.flatMap_append]
 rfl
theorem rels_one (off : Nat) (bs : List UInt8) : [Value.int IntKind.u32 (numV 4 off bs : Int),Value.bool ((numV 1 (rO3 off bs) bs : Int) == (1 : Int)),Value.int IntKind.u32 (numV 4 (rO1 off bs) bs : Int),Value.int IntKind.u32 (numV 4 (rO2 off bs) bs : Int),Value.int IntKind.u16 (numV 2 (rO4 off bs) bs : Int),Value.int IntKind.u16 (numV 2 (rO5 off bs) bs : Int)] = rels ([] ++ [rRl off bs]):=rels_app1 [] off bs
theorem rO6_le {off : Nat} {bs : List UInt8} (ho : off ≤ 1000000000) (hl : bs.length ≤ 1000000000) : rO1 off bs ≤ 1000000000 ∧ rO2 off bs ≤ 1000000000 ∧ rO3 off bs ≤ 1000000000 ∧ rO4 off bs ≤ 1000000000 ∧ rO5 off bs ≤ 1000000000 ∧ rO6 off bs ≤ 1000000000:=by
 have h1 : rO1 off bs ≤ 1000000000:=numO_le ho hl (by omega)
 have h2 : rO2 off bs ≤ 1000000000:=numO_le h1 hl (by omega)
 have h3 : rO3 off bs ≤ 1000000000:=numO_le h2 hl (by omega)
 have h4 : rO4 off bs ≤ 1000000000:=numO_le h3 hl (by omega)
 have h5 : rO5 off bs ≤ 1000000000:=numO_le h4 hl (by omega)
 exact ⟨h1,h2,h3,h4,h5,numO_le h5 hl (by omega)⟩
def runR (bs : List UInt8) : Nat → Nat → List Rl × Nat × Bool
 | 0,off => ([],off,true)
 | m + 1,off => bif rI off bs then (rRl off bs :: (runR bs m (rO6 off bs)).1,(runR bs m (rO6 off bs)).2) else ([rRl off bs],rO6 off bs,false)
def contR (bs : List UInt8) (m off : Nat) (b : Bool) : List Rl × Nat × Bool:=bif b then runR bs m off else ([],off,false)
theorem contR_step (bs : List UInt8) (m off : Nat) : contR bs (m + 1) off true = (rRl off bs :: (contR bs m (rO6 off bs) (rI off bs)).1,(contR bs m (rO6 off bs) (rI off bs)).2):=by
 unfold contR
 simp only [rr, tt, cond_true,runR]
 cases h : rI off bs <;> simp
theorem oneC_rels (xs : List Rl) : oneC (rels xs) = true:=oneC_flat (rels_flat xs)
def rRa (bs : List UInt8) (m off : Nat) : List Rl:=(runR bs m off).1
def rRo (bs : List UInt8) (m off : Nat) : Nat:=(runR bs m off).2.1
def rRb (bs : List UInt8) (m off : Nat) : Bool:=(runR bs m off).2.2
end Go.Proofs.Ytdljpnebpoaeiaa
namespace Go.Proofs.Ytdljpnebpoaeiaa
open Go.RowKit
open Sy
def mrG : Value:=.func (.func 45) ⟨[]⟩ ⟨[.pointer (some ⟨64,0,none⟩),.pointer (some ⟨66,0,none⟩),.pointer (some ⟨70,0,none⟩)]⟩
def mrI0 (y0 y1 y2 y3 y4 y5 : Value) (bs : List UInt8) (off m : Nat) (b : Bool) : Sf :=
 ⟨74,[(1,mrG),(3,.pointer (some ⟨66,0,none⟩)),(6,.int .u32 (m : Nat))],
  [(64,⟨false,none,[ncG],none⟩),(65,⟨false,none,[.pointer (some ⟨67,0,none⟩)],none⟩),(66,⟨true,none,[.bool b],none⟩),(67,⟨true,none,[rdV 68 off bs 73],none⟩),(68,⟨false,some (0,0),u8s bs,none⟩),
     (70,⟨true,none,[y0,y1,y2,y3,y4,.slice none 0 0,y5],none⟩)],[(73,bs.length - off)]⟩
def mrI1 (y0 y1 y2 y3 y4 y5 : Value) (bs : List UInt8) (acc : List Rl) (off m : Nat) (b : Bool) : Sf :=
 ⟨75,[(1,mrG),(3,.pointer (some ⟨66,0,none⟩)),(6,.int .u32 (m : Nat))],
  [(64,⟨false,none,[ncG],none⟩),(65,⟨false,none,[.pointer (some ⟨67,0,none⟩)],none⟩),(66,⟨true,none,[.bool b],none⟩),(67,⟨true,none,[rdV 68 off bs 73],none⟩),(68,⟨false,some (0,0),u8s bs,none⟩),
     (70,⟨true,none,[y0,y1,y2,y3,y4,.slice (some ⟨74,0,none⟩) acc.length (big + 74),y5],none⟩),(74,⟨true,some (74,6),rels acc,none⟩)],[(73,bs.length - off),(74,acc.length)]⟩
def mrF (y0 y1 y2 y3 y4 y5 : Value) (bs : List UInt8) (acc : List Rl) (off : Nat) (b : Bool) : Sf :=
 ⟨77,[],[(66,⟨true,none,[.bool b],none⟩),(67,⟨true,none,[rdV 68 off bs 75],none⟩),(70,⟨true,none,[y0,y1,y2,y3,y4,.slice (some ⟨76,0,none⟩) acc.length (big + 76),y5],none⟩),(76,⟨true,some (76,6),rels acc,none⟩)],[(75,bs.length - off),(76,acc.length)]⟩
theorem mr_n0t (y0 : Value) (y1 : Value) (y2 : Value) (y3 : Value) (y4 : Value) (y5 : Value) (bs : List UInt8) (off : Nat) (m : Nat) (b : Bool) (o1 : Nat) (o2 : Nat) (o3 : Nat) (o4 : Nat) (o5 : Nat) (b1 : Bool) (b2 : Bool) (b3 : Bool) (b4 : Bool) (b5 : Bool) : evC Try.prog (evF Try.prog (baseC 3 (selNcc 67 68 [(75,off,b,73),(76,o1,b1,75),(77,o2,b2,76),(78,o3,b3,77),(79,o4,b4,78),(80,o5,b5,79)] bs)) noLoop 100 5) (noLoop 42) 25 100 (loopOf Try.prog 42 0) (Sf.frT 25 (mrI0 y0 y1 y2 y3 y4 y5 bs off m b) [(0,true),(1,true),(2,true),(3,true),(4,true),(5,true),(6,false)]) = some (Exit.normal,{ e:=[[unk,.func (Fn.func 45) { toList:=[] } { toList:=[Value.pointer (some ⟨64,0,none⟩),.pointer (some ⟨66,0,none⟩),.pointer (some ⟨70,0,none⟩)] },unk,.pointer (some ⟨66,0,none⟩),unk,unk,.int .u32 (IntKind.u32.wrap ((↑m : Int) - (1 : Int))),unk,unk,unk,unk,unk,unk,unk,unk,unk],[Value.int .u32 (↑m),.bool (decide ((↑m : Int) > (0 : Int))),.bool (decide ((↑m : Int) > (0 : Int))),.bool b,.bool b,.int .u32 (↑m),.int .u32 (IntKind.u32.wrap ((↑m : Int) - (1 : Int))),.func (Fn.func 45) { toList:=[] } { toList:=[Value.pointer (some ⟨64,0,none⟩),.pointer (some ⟨66,0,none⟩),.pointer (some ⟨70,0,none⟩)] },undef,unk,unk,unk,unk,unk,unk,unk]],s:={ n:=83,h:=[(82,⟨true,some (82,6),[Value.int .u32 (↑(numV 4 off bs)),.bool ((↑(numV 1 o3 bs) : Int) == (1 : Int)),.int .u32 (↑(numV 4 o1 bs)),.int .u32 (↑(numV 4 o2 bs)),.int .u16 (IntKind.u16.wrap (↑(numV 2 o4 bs))),.int .u16 (IntKind.u16.wrap (↑(numV 2 o5 bs)))],none⟩),(81,⟨true,none,[Value.int .u32 (↑(numV 4 off bs)),.bool ((↑(numV 1 o3 bs) : Int) == (1 : Int)),.int .u32 (↑(numV 4 o1 bs)),.int .u32 (↑(numV 4 o2 bs)),.int .u16 (IntKind.u16.wrap (↑(numV 2 o4 bs))),.int .u16 (IntKind.u16.wrap (↑(numV 2 o5 bs)))],none⟩),(66,⟨true,none,[Value.bool (b5 && numIs 2 o5 bs)],none⟩),(67,⟨true,none,[rnV (lift 69 80 [65,66,67,68,79]) 3 (rdV 67 (numO 2 o5 bs) bs 69)],none⟩),(65,⟨false,none,[Value.pointer (some ⟨67,0,none⟩)],none⟩),(68,⟨false,some (0,0),u8s bs,none⟩),(70,⟨true,none,[y0,y1,y2,y3,y4,.slice (some ⟨82,0,none⟩) 1 9223372036854775890,y5],none⟩),(74,⟨true,none,[Value.int .u32 (↑(numV 4 off bs)),.bool ((↑(numV 1 o3 bs) : Int) == (1 : Int)),.int .u32 (↑(numV 4 o1 bs)),.int .u32 (↑(numV 4 o2 bs)),.int .u16 (IntKind.u16.wrap (↑(numV 2 o4 bs))),.int .u16 (IntKind.u16.wrap (↑(numV 2 o5 bs)))],none⟩),(64,{ rw:=false,op:=none,cells:=[Value.func (Fn.func 40) { toList:=[] } { toList:=[Value.pointer (some ⟨65,0,none⟩),.pointer (some ⟨66,0,none⟩)] }],it:=none : Sy.Blk })],lo:=[(82,1),(80,bs.length - numO 2 o5 bs),(79,bs.length - numO 2 o4 bs),(78,bs.length - numO 1 o3 bs),(77,bs.length - numO 4 o2 bs),(76,bs.length - numO 4 o1 bs),(75,bs.length - numO 4 off bs),(73,bs.length - off)],esc:=0,T:=[],k:=7,O:=((((((((((((True ∧ decide ((↑m : Int) > (0 : Int)) = true) ∧ decide ((↑m : Int) > (0 : Int)) = true) ∧ b = true) ∧ NumOk 4 off bs ∧ (rr (Value.int .i64 4) ∧ rr (Value.pointer (some ⟨65,0,none⟩)) ∧ rr (Value.pointer (some ⟨66,0,none⟩)) ∧ True) ∧ ((tt ∧ tt ∧ tt ∧ tt ∧ tt ∧ True ∧ rr [Value.pointer (some ⟨67,0,none⟩)]) ∧ (tt ∧ tt ∧ tt ∧ tt ∧ tt ∧ True ∧ rr [Value.bool b]) ∧ (tt ∧ (okV (fun l => l.blt 69) 3 (rdV 67 off bs 68) && true) = true ∧ tt ∧ tt ∧ tt ∧ True ∧ [rdV 68 off bs 73] = [rnV (lift 69 75 [65,66,67,68,73]) 3 (rdV 67 off bs 68)]) ∧ (tt ∧ (u8s bs).all (okV (fun l => l.blt 69) 3) = true ∧ tt ∧ tt ∧ tt ∧ True ∧ u8s bs = List.map (rnV (lift 69 75 [65,66,67,68,73]) 3) (u8s bs)) ∧ True) ∧ (tt ∧ bs.length - off ≤ bs.length - off) ∧ True) ∧ NumOk 4 o1 bs ∧ (rr (Value.int .i64 4) ∧ rr (Value.pointer (some ⟨65,0,none⟩)) ∧ rr (Value.pointer (some ⟨66,0,none⟩)) ∧ True) ∧ ((tt ∧ tt ∧ tt ∧ tt ∧ tt ∧ True ∧ rr [Value.pointer (some ⟨67,0,none⟩)]) ∧ (tt ∧ tt ∧ tt ∧ tt ∧ tt ∧ True ∧ [Value.bool (b && numIs 4 off bs)] = [Value.bool b1]) ∧ (tt ∧ (okV (fun l => l.blt 69) 3 (rdV 67 o1 bs 68) && true) = true ∧ tt ∧ tt ∧ tt ∧ True ∧ [rnV (lift 69 75 [65,66,67,68,73]) 3 (rdV 67 (numO 4 off bs) bs 69)] = [rnV (lift 69 76 [65,66,67,68,75]) 3 (rdV 67 o1 bs 68)]) ∧ (tt ∧ (u8s bs).all (okV (fun l => l.blt 69) 3) = true ∧ tt ∧ tt ∧ tt ∧ True ∧ u8s bs = List.map (rnV (lift 69 76 [65,66,67,68,75]) 3) (u8s bs)) ∧ True) ∧ (tt ∧ bs.length - o1 ≤ bs.length - numO 4 off bs) ∧ True) ∧ NumOk 4 o2 bs ∧ (rr (Value.int .i64 4) ∧ rr (Value.pointer (some ⟨65,0,none⟩)) ∧ rr (Value.pointer (some ⟨66,0,none⟩)) ∧ True) ∧ ((tt ∧ tt ∧ tt ∧ tt ∧ tt ∧ True ∧ rr [Value.pointer (some ⟨67,0,none⟩)]) ∧ (tt ∧ tt ∧ tt ∧ tt ∧ tt ∧ True ∧ [Value.bool (b1 && numIs 4 o1 bs)] = [Value.bool b2]) ∧ (tt ∧ (okV (fun l => l.blt 69) 3 (rdV 67 o2 bs 68) && true) = true ∧ tt ∧ tt ∧ tt ∧ True ∧ [rnV (lift 69 76 [65,66,67,68,75]) 3 (rdV 67 (numO 4 o1 bs) bs 69)] = [rnV (lift 69 77 [65,66,67,68,76]) 3 (rdV 67 o2 bs 68)]) ∧ (tt ∧ (u8s bs).all (okV (fun l => l.blt 69) 3) = true ∧ tt ∧ tt ∧ tt ∧ True ∧ u8s bs = List.map (rnV (lift 69 77 [65,66,67,68,76]) 3) (u8s bs)) ∧ True) ∧ (tt ∧ bs.length - o2 ≤ bs.length - numO 4 o1 bs) ∧ True) ∧ NumOk 1 o3 bs ∧ (rr (Value.int .i64 1) ∧ rr (Value.pointer (some ⟨65,0,none⟩)) ∧ rr (Value.pointer (some ⟨66,0,none⟩)) ∧ True) ∧ ((tt ∧ tt ∧ tt ∧ tt ∧ tt ∧ True ∧ rr [Value.pointer (some ⟨67,0,none⟩)]) ∧ (tt ∧ tt ∧ tt ∧ tt ∧ tt ∧ True ∧ [Value.bool (b2 && numIs 4 o2 bs)] = [Value.bool b3]) ∧ (tt ∧ (okV (fun l => l.blt 69) 3 (rdV 67 o3 bs 68) && true) = true ∧ tt ∧ tt ∧ tt ∧ True ∧ [rnV (lift 69 77 [65,66,67,68,76]) 3 (rdV 67 (numO 4 o2 bs) bs 69)] = [rnV (lift 69 78 [65,66,67,68,77]) 3 (rdV 67 o3 bs 68)]) ∧ (tt ∧ (u8s bs).all (okV (fun l => l.blt 69) 3) = true ∧ tt ∧ tt ∧ tt ∧ True ∧ u8s bs = List.map (rnV (lift 69 78 [65,66,67,68,77]) 3) (u8s bs)) ∧ True) ∧ (tt ∧ bs.length - o3 ≤ bs.length - numO 4 o2 bs) ∧ True) ∧ (b3 && numIs 1 o3 bs) = true) ∧ (b3 && numIs 1 o3 bs) = true) ∧ (b3 && numIs 1 o3 bs) = true) ∧ NumOk 2 o4 bs ∧ (rr (Value.int .i64 2) ∧ rr (Value.pointer (some ⟨65,0,none⟩)) ∧ rr (Value.pointer (some ⟨66,0,none⟩)) ∧ True) ∧ ((tt ∧ tt ∧ tt ∧ tt ∧ tt ∧ True ∧ rr [Value.pointer (some ⟨67,0,none⟩)]) ∧ (tt ∧ tt ∧ tt ∧ tt ∧ tt ∧ True ∧ [Value.bool (decide ((↑(numV 1 o3 bs) : Int) ≤ (1 : Int)))] = [Value.bool b4]) ∧ (tt ∧ (okV (fun l => l.blt 69) 3 (rdV 67 o4 bs 68) && true) = true ∧ tt ∧ tt ∧ tt ∧ True ∧ [rnV (lift 69 78 [65,66,67,68,77]) 3 (rdV 67 (numO 1 o3 bs) bs 69)] = [rnV (lift 69 79 [65,66,67,68,78]) 3 (rdV 67 o4 bs 68)]) ∧ (tt ∧ (u8s bs).all (okV (fun l => l.blt 69) 3) = true ∧ tt ∧ tt ∧ tt ∧ True ∧ u8s bs = List.map (rnV (lift 69 79 [65,66,67,68,78]) 3) (u8s bs)) ∧ True) ∧ (tt ∧ bs.length - o4 ≤ bs.length - numO 1 o3 bs) ∧ True) ∧ NumOk 2 o5 bs ∧ (rr (Value.int .i64 2) ∧ rr (Value.pointer (some ⟨65,0,none⟩)) ∧ rr (Value.pointer (some ⟨66,0,none⟩)) ∧ True) ∧ ((tt ∧ tt ∧ tt ∧ tt ∧ tt ∧ True ∧ rr [Value.pointer (some ⟨67,0,none⟩)]) ∧ (tt ∧ tt ∧ tt ∧ tt ∧ tt ∧ True ∧ [Value.bool (b4 && numIs 2 o4 bs)] = [Value.bool b5]) ∧ (tt ∧ (okV (fun l => l.blt 69) 3 (rdV 67 o5 bs 68) && true) = true ∧ tt ∧ tt ∧ tt ∧ True ∧ [rnV (lift 69 79 [65,66,67,68,78]) 3 (rdV 67 (numO 2 o4 bs) bs 69)] = [rnV (lift 69 80 [65,66,67,68,79]) 3 (rdV 67 o5 bs 68)]) ∧ (tt ∧ (u8s bs).all (okV (fun l => l.blt 69) 3) = true ∧ tt ∧ tt ∧ tt ∧ True ∧ u8s bs = List.map (rnV (lift 69 80 [65,66,67,68,79]) 3) (u8s bs)) ∧ True) ∧ (tt ∧ bs.length - o5 ≤ bs.length - numO 2 o4 bs) ∧ True) ∧ false = false : St } : Fr }):=by kernel_rfl
theorem mr_n0f (y0 : Value) (y1 : Value) (y2 : Value) (y3 : Value) (y4 : Value) (y5 : Value) (bs : List UInt8) (off : Nat) (m : Nat) (b : Bool) (o1 : Nat) (o2 : Nat) (o3 : Nat) (o4 : Nat) (o5 : Nat) (b1 : Bool) (b2 : Bool) (b3 : Bool) (b4 : Bool) (b5 : Bool) : evC Try.prog (evF Try.prog (baseC 3 (selNcc 67 68 [(75,off,b,73),(76,o1,b1,75),(77,o2,b2,76),(78,o3,b3,77),(79,o4,b4,78),(80,o5,b5,79)] bs)) noLoop 100 5) (noLoop 42) 25 100 (loopOf Try.prog 42 0) (Sf.frT 25 (mrI0 y0 y1 y2 y3 y4 y5 bs off m b) [(0,true),(1,true),(2,true),(3,false),(4,false),(5,false),(6,false)]) = some (Exit.normal,{ e:=[[unk,.func (Fn.func 45) { toList:=[] } { toList:=[Value.pointer (some ⟨64,0,none⟩),.pointer (some ⟨66,0,none⟩),.pointer (some ⟨70,0,none⟩)] },unk,.pointer (some ⟨66,0,none⟩),unk,unk,.int .u32 (IntKind.u32.wrap ((↑m : Int) - (1 : Int))),unk,unk,unk,unk,unk,unk,unk,unk,unk],[Value.int .u32 (↑m),.bool (decide ((↑m : Int) > (0 : Int))),.bool (decide ((↑m : Int) > (0 : Int))),.bool b,.bool b,.int .u32 (↑m),.int .u32 (IntKind.u32.wrap ((↑m : Int) - (1 : Int))),.func (Fn.func 45) { toList:=[] } { toList:=[Value.pointer (some ⟨64,0,none⟩),.pointer (some ⟨66,0,none⟩),.pointer (some ⟨70,0,none⟩)] },undef,unk,unk,unk,unk,unk,unk,unk]],s:={ n:=83,h:=[(82,⟨true,some (82,6),[Value.int .u32 (↑(numV 4 off bs)),.bool ((↑(numV 1 o3 bs) : Int) == (1 : Int)),.int .u32 (↑(numV 4 o1 bs)),.int .u32 (↑(numV 4 o2 bs)),.int .u16 (IntKind.u16.wrap (↑(numV 2 o4 bs))),.int .u16 (IntKind.u16.wrap (↑(numV 2 o5 bs)))],none⟩),(81,⟨true,none,[Value.int .u32 (↑(numV 4 off bs)),.bool ((↑(numV 1 o3 bs) : Int) == (1 : Int)),.int .u32 (↑(numV 4 o1 bs)),.int .u32 (↑(numV 4 o2 bs)),.int .u16 (IntKind.u16.wrap (↑(numV 2 o4 bs))),.int .u16 (IntKind.u16.wrap (↑(numV 2 o5 bs)))],none⟩),(66,⟨true,none,[Value.bool (b5 && numIs 2 o5 bs)],none⟩),(67,⟨true,none,[rnV (lift 69 80 [65,66,67,68,79]) 3 (rdV 67 (numO 2 o5 bs) bs 69)],none⟩),(65,⟨false,none,[Value.pointer (some ⟨67,0,none⟩)],none⟩),(68,⟨false,some (0,0),u8s bs,none⟩),(70,⟨true,none,[y0,y1,y2,y3,y4,.slice (some ⟨82,0,none⟩) 1 9223372036854775890,y5],none⟩),(74,⟨true,none,[Value.int .u32 (↑(numV 4 off bs)),.bool ((↑(numV 1 o3 bs) : Int) == (1 : Int)),.int .u32 (↑(numV 4 o1 bs)),.int .u32 (↑(numV 4 o2 bs)),.int .u16 (IntKind.u16.wrap (↑(numV 2 o4 bs))),.int .u16 (IntKind.u16.wrap (↑(numV 2 o5 bs)))],none⟩),(64,{ rw:=false,op:=none,cells:=[Value.func (Fn.func 40) { toList:=[] } { toList:=[Value.pointer (some ⟨65,0,none⟩),.pointer (some ⟨66,0,none⟩)] }],it:=none : Sy.Blk })],lo:=[(82,1),(80,bs.length - numO 2 o5 bs),(79,bs.length - numO 2 o4 bs),(78,bs.length - numO 1 o3 bs),(77,bs.length - numO 4 o2 bs),(76,bs.length - numO 4 o1 bs),(75,bs.length - numO 4 off bs),(73,bs.length - off)],esc:=0,T:=[],k:=7,O:=((((((((((((True ∧ decide ((↑m : Int) > (0 : Int)) = true) ∧ decide ((↑m : Int) > (0 : Int)) = true) ∧ b = true) ∧ NumOk 4 off bs ∧ (rr (Value.int .i64 4) ∧ rr (Value.pointer (some ⟨65,0,none⟩)) ∧ rr (Value.pointer (some ⟨66,0,none⟩)) ∧ True) ∧ ((tt ∧ tt ∧ tt ∧ tt ∧ tt ∧ True ∧ rr [Value.pointer (some ⟨67,0,none⟩)]) ∧ (tt ∧ tt ∧ tt ∧ tt ∧ tt ∧ True ∧ rr [Value.bool b]) ∧ (tt ∧ (okV (fun l => l.blt 69) 3 (rdV 67 off bs 68) && true) = true ∧ tt ∧ tt ∧ tt ∧ True ∧ [rdV 68 off bs 73] = [rnV (lift 69 75 [65,66,67,68,73]) 3 (rdV 67 off bs 68)]) ∧ (tt ∧ (u8s bs).all (okV (fun l => l.blt 69) 3) = true ∧ tt ∧ tt ∧ tt ∧ True ∧ u8s bs = List.map (rnV (lift 69 75 [65,66,67,68,73]) 3) (u8s bs)) ∧ True) ∧ (tt ∧ bs.length - off ≤ bs.length - off) ∧ True) ∧ NumOk 4 o1 bs ∧ (rr (Value.int .i64 4) ∧ rr (Value.pointer (some ⟨65,0,none⟩)) ∧ rr (Value.pointer (some ⟨66,0,none⟩)) ∧ True) ∧ ((tt ∧ tt ∧ tt ∧ tt ∧ tt ∧ True ∧ rr [Value.pointer (some ⟨67,0,none⟩)]) ∧ (tt ∧ tt ∧ tt ∧ tt ∧ tt ∧ True ∧ [Value.bool (b && numIs 4 off bs)] = [Value.bool b1]) ∧ (tt ∧ (okV (fun l => l.blt 69) 3 (rdV 67 o1 bs 68) && true) = true ∧ tt ∧ tt ∧ tt ∧ True ∧ [rnV (lift 69 75 [65,66,67,68,73]) 3 (rdV 67 (numO 4 off bs) bs 69)] = [rnV (lift 69 76 [65,66,67,68,75]) 3 (rdV 67 o1 bs 68)]) ∧ (tt ∧ (u8s bs).all (okV (fun l => l.blt 69) 3) = true ∧ tt ∧ tt ∧ tt ∧ True ∧ u8s bs = List.map (rnV (lift 69 76 [65,66,67,68,75]) 3) (u8s bs)) ∧ True) ∧ (tt ∧ bs.length - o1 ≤ bs.length - numO 4 off bs) ∧ True) ∧ NumOk 4 o2 bs ∧ (rr (Value.int .i64 4) ∧ rr (Value.pointer (some ⟨65,0,none⟩)) ∧ rr (Value.pointer (some ⟨66,0,none⟩)) ∧ True) ∧ ((tt ∧ tt ∧ tt ∧ tt ∧ tt ∧ True ∧ rr [Value.pointer (some ⟨67,0,none⟩)]) ∧ (tt ∧ tt ∧ tt ∧ tt ∧ tt ∧ True ∧ [Value.bool (b1 && numIs 4 o1 bs)] = [Value.bool b2]) ∧ (tt ∧ (okV (fun l => l.blt 69) 3 (rdV 67 o2 bs 68) && true) = true ∧ tt ∧ tt ∧ tt ∧ True ∧ [rnV (lift 69 76 [65,66,67,68,75]) 3 (rdV 67 (numO 4 o1 bs) bs 69)] = [rnV (lift 69 77 [65,66,67,68,76]) 3 (rdV 67 o2 bs 68)]) ∧ (tt ∧ (u8s bs).all (okV (fun l => l.blt 69) 3) = true ∧ tt ∧ tt ∧ tt ∧ True ∧ u8s bs = List.map (rnV (lift 69 77 [65,66,67,68,76]) 3) (u8s bs)) ∧ True) ∧ (tt ∧ bs.length - o2 ≤ bs.length - numO 4 o1 bs) ∧ True) ∧ NumOk 1 o3 bs ∧ (rr (Value.int .i64 1) ∧ rr (Value.pointer (some ⟨65,0,none⟩)) ∧ rr (Value.pointer (some ⟨66,0,none⟩)) ∧ True) ∧ ((tt ∧ tt ∧ tt ∧ tt ∧ tt ∧ True ∧ rr [Value.pointer (some ⟨67,0,none⟩)]) ∧ (tt ∧ tt ∧ tt ∧ tt ∧ tt ∧ True ∧ [Value.bool (b2 && numIs 4 o2 bs)] = [Value.bool b3]) ∧ (tt ∧ (okV (fun l => l.blt 69) 3 (rdV 67 o3 bs 68) && true) = true ∧ tt ∧ tt ∧ tt ∧ True ∧ [rnV (lift 69 77 [65,66,67,68,76]) 3 (rdV 67 (numO 4 o2 bs) bs 69)] = [rnV (lift 69 78 [65,66,67,68,77]) 3 (rdV 67 o3 bs 68)]) ∧ (tt ∧ (u8s bs).all (okV (fun l => l.blt 69) 3) = true ∧ tt ∧ tt ∧ tt ∧ True ∧ u8s bs = List.map (rnV (lift 69 78 [65,66,67,68,77]) 3) (u8s bs)) ∧ True) ∧ (tt ∧ bs.length - o3 ≤ bs.length - numO 4 o2 bs) ∧ True) ∧ (b3 && numIs 1 o3 bs) = false) ∧ (b3 && numIs 1 o3 bs) = false) ∧ (b3 && numIs 1 o3 bs) = false) ∧ NumOk 2 o4 bs ∧ (rr (Value.int .i64 2) ∧ rr (Value.pointer (some ⟨65,0,none⟩)) ∧ rr (Value.pointer (some ⟨66,0,none⟩)) ∧ True) ∧ ((tt ∧ tt ∧ tt ∧ tt ∧ tt ∧ True ∧ rr [Value.pointer (some ⟨67,0,none⟩)]) ∧ (tt ∧ tt ∧ tt ∧ tt ∧ tt ∧ True ∧ [Value.bool false] = [Value.bool b4]) ∧ (tt ∧ (okV (fun l => l.blt 69) 3 (rdV 67 o4 bs 68) && true) = true ∧ tt ∧ tt ∧ tt ∧ True ∧ [rnV (lift 69 78 [65,66,67,68,77]) 3 (rdV 67 (numO 1 o3 bs) bs 69)] = [rnV (lift 69 79 [65,66,67,68,78]) 3 (rdV 67 o4 bs 68)]) ∧ (tt ∧ (u8s bs).all (okV (fun l => l.blt 69) 3) = true ∧ tt ∧ tt ∧ tt ∧ True ∧ u8s bs = List.map (rnV (lift 69 79 [65,66,67,68,78]) 3) (u8s bs)) ∧ True) ∧ (tt ∧ bs.length - o4 ≤ bs.length - numO 1 o3 bs) ∧ True) ∧ NumOk 2 o5 bs ∧ (rr (Value.int .i64 2) ∧ rr (Value.pointer (some ⟨65,0,none⟩)) ∧ rr (Value.pointer (some ⟨66,0,none⟩)) ∧ True) ∧ ((tt ∧ tt ∧ tt ∧ tt ∧ tt ∧ True ∧ rr [Value.pointer (some ⟨67,0,none⟩)]) ∧ (tt ∧ tt ∧ tt ∧ tt ∧ tt ∧ True ∧ [Value.bool (b4 && numIs 2 o4 bs)] = [Value.bool b5]) ∧ (tt ∧ (okV (fun l => l.blt 69) 3 (rdV 67 o5 bs 68) && true) = true ∧ tt ∧ tt ∧ tt ∧ True ∧ [rnV (lift 69 79 [65,66,67,68,78]) 3 (rdV 67 (numO 2 o4 bs) bs 69)] = [rnV (lift 69 80 [65,66,67,68,79]) 3 (rdV 67 o5 bs 68)]) ∧ (tt ∧ (u8s bs).all (okV (fun l => l.blt 69) 3) = true ∧ tt ∧ tt ∧ tt ∧ True ∧ u8s bs = List.map (rnV (lift 69 80 [65,66,67,68,79]) 3) (u8s bs)) ∧ True) ∧ (tt ∧ bs.length - o5 ≤ bs.length - numO 2 o4 bs) ∧ True) ∧ false = false : St } : Fr }):=by kernel_rfl
theorem mr_n1t (y0 : Value) (y1 : Value) (y2 : Value) (y3 : Value) (y4 : Value) (y5 : Value) (bs : List UInt8) (acc : List Rl) (off : Nat) (m : Nat) (b : Bool) (o1 : Nat) (o2 : Nat) (o3 : Nat) (o4 : Nat) (o5 : Nat) (b1 : Bool) (b2 : Bool) (b3 : Bool) (b4 : Bool) (b5 : Bool) : evC Try.prog (evF Try.prog (baseC 3 (selNcc 67 68 [(76,off,b,73),(77,o1,b1,76),(78,o2,b2,77),(79,o3,b3,78),(80,o4,b4,79),(81,o5,b5,80)] bs)) noLoop 100 5) (noLoop 42) 25 100 (loopOf Try.prog 42 0) (Sf.frT 25 (mrI1 y0 y1 y2 y3 y4 y5 bs acc off m b) [(0,true),(1,true),(2,true),(3,true),(4,true),(5,true)]) = some (Exit.normal,{ e:=[[unk,.func (Fn.func 45) { toList:=[] } { toList:=[Value.pointer (some ⟨64,0,none⟩),.pointer (some ⟨66,0,none⟩),.pointer (some ⟨70,0,none⟩)] },unk,.pointer (some ⟨66,0,none⟩),unk,unk,.int .u32 (IntKind.u32.wrap ((↑m : Int) - (1 : Int))),unk,unk,unk,unk,unk,unk,unk,unk,unk],[Value.int .u32 (↑m),.bool (decide ((↑m : Int) > (0 : Int))),.bool (decide ((↑m : Int) > (0 : Int))),.bool b,.bool b,.int .u32 (↑m),.int .u32 (IntKind.u32.wrap ((↑m : Int) - (1 : Int))),.func (Fn.func 45) { toList:=[] } { toList:=[Value.pointer (some ⟨64,0,none⟩),.pointer (some ⟨66,0,none⟩),.pointer (some ⟨70,0,none⟩)] },undef,unk,unk,unk,unk,unk,unk,unk]],s:={ n:=84,h:=[(83,⟨true,some (83,6),rels acc ++ [Value.int .u32 (↑(numV 4 off bs)),.bool ((↑(numV 1 o3 bs) : Int) == (1 : Int)),.int .u32 (↑(numV 4 o1 bs)),.int .u32 (↑(numV 4 o2 bs)),.int .u16 (IntKind.u16.wrap (↑(numV 2 o4 bs))),.int .u16 (IntKind.u16.wrap (↑(numV 2 o5 bs)))],none⟩),(82,⟨true,none,[Value.int .u32 (↑(numV 4 off bs)),.bool ((↑(numV 1 o3 bs) : Int) == (1 : Int)),.int .u32 (↑(numV 4 o1 bs)),.int .u32 (↑(numV 4 o2 bs)),.int .u16 (IntKind.u16.wrap (↑(numV 2 o4 bs))),.int .u16 (IntKind.u16.wrap (↑(numV 2 o5 bs)))],none⟩),(66,⟨true,none,[Value.bool (b5 && numIs 2 o5 bs)],none⟩),(67,⟨true,none,[rnV (lift 69 81 [65,66,67,68,80]) 3 (rdV 67 (numO 2 o5 bs) bs 69)],none⟩),(65,⟨false,none,[Value.pointer (some ⟨67,0,none⟩)],none⟩),(68,⟨false,some (0,0),u8s bs,none⟩),(70,⟨true,none,[y0,y1,y2,y3,y4,.slice (some ⟨83,0,none⟩) (acc.length + 1) 9223372036854775891,y5],none⟩),(75,⟨true,none,[Value.int .u32 (↑(numV 4 off bs)),.bool ((↑(numV 1 o3 bs) : Int) == (1 : Int)),.int .u32 (↑(numV 4 o1 bs)),.int .u32 (↑(numV 4 o2 bs)),.int .u16 (IntKind.u16.wrap (↑(numV 2 o4 bs))),.int .u16 (IntKind.u16.wrap (↑(numV 2 o5 bs)))],none⟩),(64,{ rw:=false,op:=none,cells:=[Value.func (Fn.func 40) { toList:=[] } { toList:=[Value.pointer (some ⟨65,0,none⟩),.pointer (some ⟨66,0,none⟩)] }],it:=none : Sy.Blk })],lo:=[(83,acc.length + 1),(81,bs.length - numO 2 o5 bs),(80,bs.length - numO 2 o4 bs),(79,bs.length - numO 1 o3 bs),(78,bs.length - numO 4 o2 bs),(77,bs.length - numO 4 o1 bs),(76,bs.length - numO 4 off bs),(73,bs.length - off),(74,acc.length)],esc:=0,T:=[],k:=6,O:=bif (lenT (rels acc)).beq (acc.length * 6) then bif ((acc.length + 1) * 20).ble 1099511627776 && (acc.length + 1).blt 4611686018427387904 then (((((((((((True ∧ decide ((↑m : Int) > (0 : Int)) = true) ∧ decide ((↑m : Int) > (0 : Int)) = true) ∧ b = true) ∧ NumOk 4 off bs ∧ (rr (Value.int .i64 4) ∧ rr (Value.pointer (some ⟨65,0,none⟩)) ∧ rr (Value.pointer (some ⟨66,0,none⟩)) ∧ True) ∧ ((tt ∧ tt ∧ tt ∧ tt ∧ tt ∧ True ∧ rr [Value.pointer (some ⟨67,0,none⟩)]) ∧ (tt ∧ tt ∧ tt ∧ tt ∧ tt ∧ True ∧ rr [Value.bool b]) ∧ (tt ∧ (okV (fun l => l.blt 69) 3 (rdV 67 off bs 68) && true) = true ∧ tt ∧ tt ∧ tt ∧ True ∧ [rdV 68 off bs 73] = [rnV (lift 69 76 [65,66,67,68,73]) 3 (rdV 67 off bs 68)]) ∧ (tt ∧ (u8s bs).all (okV (fun l => l.blt 69) 3) = true ∧ tt ∧ tt ∧ tt ∧ True ∧ u8s bs = List.map (rnV (lift 69 76 [65,66,67,68,73]) 3) (u8s bs)) ∧ True) ∧ (tt ∧ bs.length - off ≤ bs.length - off) ∧ True) ∧ NumOk 4 o1 bs ∧ (rr (Value.int .i64 4) ∧ rr (Value.pointer (some ⟨65,0,none⟩)) ∧ rr (Value.pointer (some ⟨66,0,none⟩)) ∧ True) ∧ ((tt ∧ tt ∧ tt ∧ tt ∧ tt ∧ True ∧ rr [Value.pointer (some ⟨67,0,none⟩)]) ∧ (tt ∧ tt ∧ tt ∧ tt ∧ tt ∧ True ∧ [Value.bool (b && numIs 4 off bs)] = [Value.bool b1]) ∧ (tt ∧ (okV (fun l => l.blt 69) 3 (rdV 67 o1 bs 68) && true) = true ∧ tt ∧ tt ∧ tt ∧ True ∧ [rnV (lift 69 76 [65,66,67,68,73]) 3 (rdV 67 (numO 4 off bs) bs 69)] = [rnV (lift 69 77 [65,66,67,68,76]) 3 (rdV 67 o1 bs 68)]) ∧ (tt ∧ (u8s bs).all (okV (fun l => l.blt 69) 3) = true ∧ tt ∧ tt ∧ tt ∧ True ∧ u8s bs = List.map (rnV (lift 69 77 [65,66,67,68,76]) 3) (u8s bs)) ∧ True) ∧ (tt ∧ bs.length - o1 ≤ bs.length - numO 4 off bs) ∧ True) ∧ NumOk 4 o2 bs ∧ (rr (Value.int .i64 4) ∧ rr (Value.pointer (some ⟨65,0,none⟩)) ∧ rr (Value.pointer (some ⟨66,0,none⟩)) ∧ True) ∧ ((tt ∧ tt ∧ tt ∧ tt ∧ tt ∧ True ∧ rr [Value.pointer (some ⟨67,0,none⟩)]) ∧ (tt ∧ tt ∧ tt ∧ tt ∧ tt ∧ True ∧ [Value.bool (b1 && numIs 4 o1 bs)] = [Value.bool b2]) ∧ (tt ∧ (okV (fun l => l.blt 69) 3 (rdV 67 o2 bs 68) && true) = true ∧ tt ∧ tt ∧ tt ∧ True ∧ [rnV (lift 69 77 [65,66,67,68,76]) 3 (rdV 67 (numO 4 o1 bs) bs 69)] = [rnV (lift 69 78 [65,66,67,68,77]) 3 (rdV 67 o2 bs 68)]) ∧ (tt ∧ (u8s bs).all (okV (fun l => l.blt 69) 3) = true ∧ tt ∧ tt ∧ tt ∧ True ∧ u8s bs = List.map (rnV (lift 69 78 [65,66,67,68,77]) 3) (u8s bs)) ∧ True) ∧ (tt ∧ bs.length - o2 ≤ bs.length - numO 4 o1 bs) ∧ True) ∧ NumOk 1 o3 bs ∧ (rr (Value.int .i64 1) ∧ rr (Value.pointer (some ⟨65,0,none⟩)) ∧ rr (Value.pointer (some ⟨66,0,none⟩)) ∧ True) ∧ ((tt ∧ tt ∧ tt ∧ tt ∧ tt ∧ True ∧ rr [Value.pointer (some ⟨67,0,none⟩)]) ∧ (tt ∧ tt ∧ tt ∧ tt ∧ tt ∧ True ∧ [Value.bool (b2 && numIs 4 o2 bs)] = [Value.bool b3]) ∧ (tt ∧ (okV (fun l => l.blt 69) 3 (rdV 67 o3 bs 68) && true) = true ∧ tt ∧ tt ∧ tt ∧ True ∧ [rnV (lift 69 78 [65,66,67,68,77]) 3 (rdV 67 (numO 4 o2 bs) bs 69)] = [rnV (lift 69 79 [65,66,67,68,78]) 3 (rdV 67 o3 bs 68)]) ∧ (tt ∧ (u8s bs).all (okV (fun l => l.blt 69) 3) = true ∧ tt ∧ tt ∧ tt ∧ True ∧ u8s bs = List.map (rnV (lift 69 79 [65,66,67,68,78]) 3) (u8s bs)) ∧ True) ∧ (tt ∧ bs.length - o3 ≤ bs.length - numO 4 o2 bs) ∧ True) ∧ (b3 && numIs 1 o3 bs) = true) ∧ (b3 && numIs 1 o3 bs) = true) ∧ (b3 && numIs 1 o3 bs) = true) ∧ NumOk 2 o4 bs ∧ (rr (Value.int .i64 2) ∧ rr (Value.pointer (some ⟨65,0,none⟩)) ∧ rr (Value.pointer (some ⟨66,0,none⟩)) ∧ True) ∧ ((tt ∧ tt ∧ tt ∧ tt ∧ tt ∧ True ∧ rr [Value.pointer (some ⟨67,0,none⟩)]) ∧ (tt ∧ tt ∧ tt ∧ tt ∧ tt ∧ True ∧ [Value.bool (decide ((↑(numV 1 o3 bs) : Int) ≤ (1 : Int)))] = [Value.bool b4]) ∧ (tt ∧ (okV (fun l => l.blt 69) 3 (rdV 67 o4 bs 68) && true) = true ∧ tt ∧ tt ∧ tt ∧ True ∧ [rnV (lift 69 79 [65,66,67,68,78]) 3 (rdV 67 (numO 1 o3 bs) bs 69)] = [rnV (lift 69 80 [65,66,67,68,79]) 3 (rdV 67 o4 bs 68)]) ∧ (tt ∧ (u8s bs).all (okV (fun l => l.blt 69) 3) = true ∧ tt ∧ tt ∧ tt ∧ True ∧ u8s bs = List.map (rnV (lift 69 80 [65,66,67,68,79]) 3) (u8s bs)) ∧ True) ∧ (tt ∧ bs.length - o4 ≤ bs.length - numO 1 o3 bs) ∧ True) ∧ NumOk 2 o5 bs ∧ (rr (Value.int .i64 2) ∧ rr (Value.pointer (some ⟨65,0,none⟩)) ∧ rr (Value.pointer (some ⟨66,0,none⟩)) ∧ True) ∧ ((tt ∧ tt ∧ tt ∧ tt ∧ tt ∧ True ∧ rr [Value.pointer (some ⟨67,0,none⟩)]) ∧ (tt ∧ tt ∧ tt ∧ tt ∧ tt ∧ True ∧ [Value.bool (b4 && numIs 2 o4 bs)] = [Value.bool b5]) ∧ (tt ∧ (okV (fun l => l.blt 69) 3 (rdV 67 o5 bs 68) && true) = true ∧ tt ∧ tt ∧ tt ∧ True ∧ [rnV (lift 69 80 [65,66,67,68,79]) 3 (rdV 67 (numO 2 o4 bs) bs 69)] = [rnV (lift 69 81 [65,66,67,68,80]) 3 (rdV 67 o5 bs 68)]) ∧ (tt ∧ (u8s bs).all (okV (fun l => l.blt 69) 3) = true ∧ tt ∧ tt ∧ tt ∧ True ∧ u8s bs = List.map (rnV (lift 69 81 [65,66,67,68,80]) 3) (u8s bs)) ∧ True) ∧ (tt ∧ bs.length - o5 ≤ bs.length - numO 2 o4 bs) ∧ True else False else False : St } : Fr }):=by kernel_rfl
theorem mr_n1f (y0 : Value) (y1 : Value) (y2 : Value) (y3 : Value) (y4 : Value) (y5 : Value) (bs : List UInt8) (acc : List Rl) (off : Nat) (m : Nat) (b : Bool) (o1 : Nat) (o2 : Nat) (o3 : Nat) (o4 : Nat) (o5 : Nat) (b1 : Bool) (b2 : Bool) (b3 : Bool) (b4 : Bool) (b5 : Bool) : evC Try.prog (evF Try.prog (baseC 3 (selNcc 67 68 [(76,off,b,73),(77,o1,b1,76),(78,o2,b2,77),(79,o3,b3,78),(80,o4,b4,79),(81,o5,b5,80)] bs)) noLoop 100 5) (noLoop 42) 25 100 (loopOf Try.prog 42 0) (Sf.frT 25 (mrI1 y0 y1 y2 y3 y4 y5 bs acc off m b) [(0,true),(1,true),(2,true),(3,false),(4,false),(5,false)]) = some (Exit.normal,{ e:=[[unk,.func (Fn.func 45) { toList:=[] } { toList:=[Value.pointer (some ⟨64,0,none⟩),.pointer (some ⟨66,0,none⟩),.pointer (some ⟨70,0,none⟩)] },unk,.pointer (some ⟨66,0,none⟩),unk,unk,.int .u32 (IntKind.u32.wrap ((↑m : Int) - (1 : Int))),unk,unk,unk,unk,unk,unk,unk,unk,unk],[Value.int .u32 (↑m),.bool (decide ((↑m : Int) > (0 : Int))),.bool (decide ((↑m : Int) > (0 : Int))),.bool b,.bool b,.int .u32 (↑m),.int .u32 (IntKind.u32.wrap ((↑m : Int) - (1 : Int))),.func (Fn.func 45) { toList:=[] } { toList:=[Value.pointer (some ⟨64,0,none⟩),.pointer (some ⟨66,0,none⟩),.pointer (some ⟨70,0,none⟩)] },undef,unk,unk,unk,unk,unk,unk,unk]],s:={ n:=84,h:=[(83,⟨true,some (83,6),rels acc ++ [Value.int .u32 (↑(numV 4 off bs)),.bool ((↑(numV 1 o3 bs) : Int) == (1 : Int)),.int .u32 (↑(numV 4 o1 bs)),.int .u32 (↑(numV 4 o2 bs)),.int .u16 (IntKind.u16.wrap (↑(numV 2 o4 bs))),.int .u16 (IntKind.u16.wrap (↑(numV 2 o5 bs)))],none⟩),(82,⟨true,none,[Value.int .u32 (↑(numV 4 off bs)),.bool ((↑(numV 1 o3 bs) : Int) == (1 : Int)),.int .u32 (↑(numV 4 o1 bs)),.int .u32 (↑(numV 4 o2 bs)),.int .u16 (IntKind.u16.wrap (↑(numV 2 o4 bs))),.int .u16 (IntKind.u16.wrap (↑(numV 2 o5 bs)))],none⟩),(66,⟨true,none,[Value.bool (b5 && numIs 2 o5 bs)],none⟩),(67,⟨true,none,[rnV (lift 69 81 [65,66,67,68,80]) 3 (rdV 67 (numO 2 o5 bs) bs 69)],none⟩),(65,⟨false,none,[Value.pointer (some ⟨67,0,none⟩)],none⟩),(68,⟨false,some (0,0),u8s bs,none⟩),(70,⟨true,none,[y0,y1,y2,y3,y4,.slice (some ⟨83,0,none⟩) (acc.length + 1) 9223372036854775891,y5],none⟩),(75,⟨true,none,[Value.int .u32 (↑(numV 4 off bs)),.bool ((↑(numV 1 o3 bs) : Int) == (1 : Int)),.int .u32 (↑(numV 4 o1 bs)),.int .u32 (↑(numV 4 o2 bs)),.int .u16 (IntKind.u16.wrap (↑(numV 2 o4 bs))),.int .u16 (IntKind.u16.wrap (↑(numV 2 o5 bs)))],none⟩),(64,{ rw:=false,op:=none,cells:=[Value.func (Fn.func 40) { toList:=[] } { toList:=[Value.pointer (some ⟨65,0,none⟩),.pointer (some ⟨66,0,none⟩)] }],it:=none : Sy.Blk })],lo:=[(83,acc.length + 1),(81,bs.length - numO 2 o5 bs),(80,bs.length - numO 2 o4 bs),(79,bs.length - numO 1 o3 bs),(78,bs.length - numO 4 o2 bs),(77,bs.length - numO 4 o1 bs),(76,bs.length - numO 4 off bs),(73,bs.length - off),(74,acc.length)],esc:=0,T:=[],k:=6,O:=bif (lenT (rels acc)).beq (acc.length * 6) then bif ((acc.length + 1) * 20).ble 1099511627776 && (acc.length + 1).blt 4611686018427387904 then (((((((((((True ∧ decide ((↑m : Int) > (0 : Int)) = true) ∧ decide ((↑m : Int) > (0 : Int)) = true) ∧ b = true) ∧ NumOk 4 off bs ∧ (rr (Value.int .i64 4) ∧ rr (Value.pointer (some ⟨65,0,none⟩)) ∧ rr (Value.pointer (some ⟨66,0,none⟩)) ∧ True) ∧ ((tt ∧ tt ∧ tt ∧ tt ∧ tt ∧ True ∧ rr [Value.pointer (some ⟨67,0,none⟩)]) ∧ (tt ∧ tt ∧ tt ∧ tt ∧ tt ∧ True ∧ rr [Value.bool b]) ∧ (tt ∧ (okV (fun l => l.blt 69) 3 (rdV 67 off bs 68) && true) = true ∧ tt ∧ tt ∧ tt ∧ True ∧ [rdV 68 off bs 73] = [rnV (lift 69 76 [65,66,67,68,73]) 3 (rdV 67 off bs 68)]) ∧ (tt ∧ (u8s bs).all (okV (fun l => l.blt 69) 3) = true ∧ tt ∧ tt ∧ tt ∧ True ∧ u8s bs = List.map (rnV (lift 69 76 [65,66,67,68,73]) 3) (u8s bs)) ∧ True) ∧ (tt ∧ bs.length - off ≤ bs.length - off) ∧ True) ∧ NumOk 4 o1 bs ∧ (rr (Value.int .i64 4) ∧ rr (Value.pointer (some ⟨65,0,none⟩)) ∧ rr (Value.pointer (some ⟨66,0,none⟩)) ∧ True) ∧ ((tt ∧ tt ∧ tt ∧ tt ∧ tt ∧ True ∧ rr [Value.pointer (some ⟨67,0,none⟩)]) ∧ (tt ∧ tt ∧ tt ∧ tt ∧ tt ∧ True ∧ [Value.bool (b && numIs 4 off bs)] = [Value.bool b1]) ∧ (tt ∧ (okV (fun l => l.blt 69) 3 (rdV 67 o1 bs 68) && true) = true ∧ tt ∧ tt ∧ tt ∧ True ∧ [rnV (lift 69 76 [65,66,67,68,73]) 3 (rdV 67 (numO 4 off bs) bs 69)] = [rnV (lift 69 77 [65,66,67,68,76]) 3 (rdV 67 o1 bs 68)]) ∧ (tt ∧ (u8s bs).all (okV (fun l => l.blt 69) 3) = true ∧ tt ∧ tt ∧ tt ∧ True ∧ u8s bs = List.map (rnV (lift 69 77 [65,66,67,68,76]) 3) (u8s bs)) ∧ True) ∧ (tt ∧ bs.length - o1 ≤ bs.length - numO 4 off bs) ∧ True) ∧ NumOk 4 o2 bs ∧ (rr (Value.int .i64 4) ∧ rr (Value.pointer (some ⟨65,0,none⟩)) ∧ rr (Value.pointer (some ⟨66,0,none⟩)) ∧ True) ∧ ((tt ∧ tt ∧ tt ∧ tt ∧ tt ∧ True ∧ rr [Value.pointer (some ⟨67,0,none⟩)]) ∧ (tt ∧ tt ∧ tt ∧ tt ∧ tt ∧ True ∧ [Value.bool (b1 && numIs 4 o1 bs)] = [Value.bool b2]) ∧ (tt ∧ (okV (fun l => l.blt 69) 3 (rdV 67 o2 bs 68) && true) = true ∧ tt ∧ tt ∧ tt ∧ True ∧ [rnV (lift 69 77 [65,66,67,68,76]) 3 (rdV 67 (numO 4 o1 bs) bs 69)] = [rnV (lift 69 78 [65,66,67,68,77]) 3 (rdV 67 o2 bs 68)]) ∧ (tt ∧ (u8s bs).all (okV (fun l => l.blt 69) 3) = true ∧ tt ∧ tt ∧ tt ∧ True ∧ u8s bs = List.map (rnV (lift 69 78 [65,66,67,68,77]) 3) (u8s bs)) ∧ True) ∧ (tt ∧ bs.length - o2 ≤ bs.length - numO 4 o1 bs) ∧ True) ∧ NumOk 1 o3 bs ∧ (rr (Value.int .i64 1) ∧ rr (Value.pointer (some ⟨65,0,none⟩)) ∧ rr (Value.pointer (some ⟨66,0,none⟩)) ∧ True) ∧ ((tt ∧ tt ∧ tt ∧ tt ∧ tt ∧ True ∧ rr [Value.pointer (some ⟨67,0,none⟩)]) ∧ (tt ∧ tt ∧ tt ∧ tt ∧ tt ∧ True ∧ [Value.bool (b2 && numIs 4 o2 bs)] = [Value.bool b3]) ∧ (tt ∧ (okV (fun l => l.blt 69) 3 (rdV 67 o3 bs 68) && true) = true ∧ tt ∧ tt ∧ tt ∧ True ∧ [rnV (lift 69 78 [65,66,67,68,77]) 3 (rdV 67 (numO 4 o2 bs) bs 69)] = [rnV (lift 69 79 [65,66,67,68,78]) 3 (rdV 67 o3 bs 68)]) ∧ (tt ∧ (u8s bs).all (okV (fun l => l.blt 69) 3) = true ∧ tt ∧ tt ∧ tt ∧ True ∧ u8s bs = List.map (rnV (lift 69 79 [65,66,67,68,78]) 3) (u8s bs)) ∧ True) ∧ (tt ∧ bs.length - o3 ≤ bs.length - numO 4 o2 bs) ∧ True) ∧ (b3 && numIs 1 o3 bs) = false) ∧ (b3 && numIs 1 o3 bs) = false) ∧ (b3 && numIs 1 o3 bs) = false) ∧ NumOk 2 o4 bs ∧ (rr (Value.int .i64 2) ∧ rr (Value.pointer (some ⟨65,0,none⟩)) ∧ rr (Value.pointer (some ⟨66,0,none⟩)) ∧ True) ∧ ((tt ∧ tt ∧ tt ∧ tt ∧ tt ∧ True ∧ rr [Value.pointer (some ⟨67,0,none⟩)]) ∧ (tt ∧ tt ∧ tt ∧ tt ∧ tt ∧ True ∧ [Value.bool false] = [Value.bool b4]) ∧ (tt ∧ (okV (fun l => l.blt 69) 3 (rdV 67 o4 bs 68) && true) = true ∧ tt ∧ tt ∧ tt ∧ True ∧ [rnV (lift 69 79 [65,66,67,68,78]) 3 (rdV 67 (numO 1 o3 bs) bs 69)] = [rnV (lift 69 80 [65,66,67,68,79]) 3 (rdV 67 o4 bs 68)]) ∧ (tt ∧ (u8s bs).all (okV (fun l => l.blt 69) 3) = true ∧ tt ∧ tt ∧ tt ∧ True ∧ u8s bs = List.map (rnV (lift 69 80 [65,66,67,68,79]) 3) (u8s bs)) ∧ True) ∧ (tt ∧ bs.length - o4 ≤ bs.length - numO 1 o3 bs) ∧ True) ∧ NumOk 2 o5 bs ∧ (rr (Value.int .i64 2) ∧ rr (Value.pointer (some ⟨65,0,none⟩)) ∧ rr (Value.pointer (some ⟨66,0,none⟩)) ∧ True) ∧ ((tt ∧ tt ∧ tt ∧ tt ∧ tt ∧ True ∧ rr [Value.pointer (some ⟨67,0,none⟩)]) ∧ (tt ∧ tt ∧ tt ∧ tt ∧ tt ∧ True ∧ [Value.bool (b4 && numIs 2 o4 bs)] = [Value.bool b5]) ∧ (tt ∧ (okV (fun l => l.blt 69) 3 (rdV 67 o5 bs 68) && true) = true ∧ tt ∧ tt ∧ tt ∧ True ∧ [rnV (lift 69 80 [65,66,67,68,79]) 3 (rdV 67 (numO 2 o4 bs) bs 69)] = [rnV (lift 69 81 [65,66,67,68,80]) 3 (rdV 67 o5 bs 68)]) ∧ (tt ∧ (u8s bs).all (okV (fun l => l.blt 69) 3) = true ∧ tt ∧ tt ∧ tt ∧ True ∧ u8s bs = List.map (rnV (lift 69 81 [65,66,67,68,80]) 3) (u8s bs)) ∧ True) ∧ (tt ∧ bs.length - o5 ≤ bs.length - numO 2 o4 bs) ∧ True else False else False : St } : Fr }):=by kernel_rfl
theorem mr_e1 (y0 : Value) (y1 : Value) (y2 : Value) (y3 : Value) (y4 : Value) (y5 : Value) (bs : List UInt8) (acc : List Rl) (off : Nat) (m : Nat) (b : Bool) : evC Try.prog (evF Try.prog (baseC 3 (selNcc 67 68 [] bs)) noLoop 100 5) (noLoop 42) 25 100 (loopOf Try.prog 42 0) (Sf.frT 25 (mrI1 y0 y1 y2 y3 y4 y5 bs acc off m b) [(0,false),(1,false)]) = some (Exit.exit 0,{ e:=[[unk,.func (Fn.func 45) { toList:=[] } { toList:=[Value.pointer (some ⟨64,0,none⟩),.pointer (some ⟨66,0,none⟩),.pointer (some ⟨70,0,none⟩)] },unk,.pointer (some ⟨66,0,none⟩),unk,unk,.int .u32 (↑m),unk,unk,unk,unk,unk,unk,unk,unk,unk],[Value.int .u32 (↑m),.bool (decide ((↑m : Int) > (0 : Int))),.bool (decide ((↑m : Int) > (0 : Int))),undef,.bool false,unk,unk,unk,unk,unk,unk,unk,unk,unk,unk,unk]],s:={ n:=75,h:=[(64,{ rw:=false,op:=none,cells:=[Value.func (Fn.func 40) { toList:=[] } { toList:=[Value.pointer (some ⟨65,0,none⟩),.pointer (some ⟨66,0,none⟩)] }],it:=none : Sy.Blk }),(65,⟨false,none,[Value.pointer (some ⟨67,0,none⟩)],none⟩),(66,⟨true,none,[Value.bool b],none⟩),(67,⟨true,none,[rdV 68 off bs 73],none⟩),(68,⟨false,some (0,0),u8s bs,none⟩),(70,⟨true,none,[y0,y1,y2,y3,y4,.slice (some ⟨74,0,none⟩) acc.length 9223372036854775882,y5],none⟩),(74,⟨true,some (74,6),rels acc,none⟩)],lo:=[(73,bs.length - off),(74,acc.length)],esc:=0,T:=[],k:=2,O:=(True ∧ decide ((↑m : Int) > (0 : Int)) = false) ∧ decide ((↑m : Int) > (0 : Int)) = false : St } : Fr }):=by kernel_rfl
theorem mr_e2 (y0 : Value) (y1 : Value) (y2 : Value) (y3 : Value) (y4 : Value) (y5 : Value) (bs : List UInt8) (acc : List Rl) (off : Nat) (m : Nat) (b : Bool) : evC Try.prog (evF Try.prog (baseC 3 (selNcc 67 68 [] bs)) noLoop 100 5) (noLoop 42) 25 100 (loopOf Try.prog 42 0) (Sf.frT 25 (mrI1 y0 y1 y2 y3 y4 y5 bs acc off m b) [(0,true),(1,true),(2,false)]) = some (Exit.exit 0,{ e:=[[unk,.func (Fn.func 45) { toList:=[] } { toList:=[Value.pointer (some ⟨64,0,none⟩),.pointer (some ⟨66,0,none⟩),.pointer (some ⟨70,0,none⟩)] },unk,.pointer (some ⟨66,0,none⟩),unk,unk,.int .u32 (↑m),unk,unk,unk,unk,unk,unk,unk,unk,unk],[Value.int .u32 (↑m),.bool (decide ((↑m : Int) > (0 : Int))),.bool (decide ((↑m : Int) > (0 : Int))),.bool b,.bool b,unk,unk,unk,unk,unk,unk,unk,unk,unk,unk,unk]],s:={ n:=75,h:=[(64,{ rw:=false,op:=none,cells:=[Value.func (Fn.func 40) { toList:=[] } { toList:=[Value.pointer (some ⟨65,0,none⟩),.pointer (some ⟨66,0,none⟩)] }],it:=none : Sy.Blk }),(65,⟨false,none,[Value.pointer (some ⟨67,0,none⟩)],none⟩),(66,⟨true,none,[Value.bool b],none⟩),(67,⟨true,none,[rdV 68 off bs 73],none⟩),(68,⟨false,some (0,0),u8s bs,none⟩),(70,⟨true,none,[y0,y1,y2,y3,y4,.slice (some ⟨74,0,none⟩) acc.length 9223372036854775882,y5],none⟩),(74,⟨true,some (74,6),rels acc,none⟩)],lo:=[(73,bs.length - off),(74,acc.length)],esc:=0,T:=[],k:=3,O:=((True ∧ decide ((↑m : Int) > (0 : Int)) = true) ∧ decide ((↑m : Int) > (0 : Int)) = true) ∧ b = false : St } : Fr }):=by kernel_rfl
theorem mr_cok {y0 y1 y2 y3 y4 y5 : Value} {p : Nat → Bool} (hy : YOk y0 y1 y2 y3 y4 y5) (h1 : p 71 = true) (h2 : p 72 = true) (c : Value) (hc : okV p 3 c = true) : ∀ v ∈ ([y0,y1,y2,y3,y4,c,y5] : List Value),okV p 3 v = true:=by
 have h:=hy.to h1 h2
 intro v hv
 simp only [rr, tt, List.mem_cons,List.not_mem_nil,or_false] at hv h
 rcases hv with rfl | rfl | rfl | rfl | rfl | rfl | rfl <;> first | exact hc | exact h _ (by simp)
theorem mr_crn {y0 y1 y2 y3 y4 y5 : Value} {σ : Nat → Nat} (hy : YOk y0 y1 y2 y3 y4 y5) (h1 : σ 71 = 71) (h2 : σ 72 = 72) (c c' : Value) (hc : rnV σ 3 c = c') : ([y0,y1,y2,y3,y4,c,y5] : List Value).map (rnV σ 3) = [y0,y1,y2,y3,y4,c',y5]:=by
 have h:=hy.rn h1 h2
 have e0:=h y0 (by simp)
 have e1:=h y1 (by simp)
 have e2:=h y2 (by simp)
 have e3:=h y3 (by simp)
 have e4:=h y4 (by simp)
 have e5:=h y5 (by simp)
 simp only [rr, tt, List.map_cons,List.map_nil,e0,e1,e2,e3,e4,e5,hc]
theorem mr_wf0 (y0 y1 y2 y3 y4 y5 : Value) (bs : List UInt8) (off m : Nat) (b : Bool) (hy : YOk y0 y1 y2 y3 y4 y5) : (mrI0 y0 y1 y2 y3 y4 y5 bs off m b).Wf :=
 ⟨by show NG ≤ 74; decide,Sf.Ok.mk' 3 ⟨⟨rfl,rfl,fun v hv => okV_bnd 3 v (List.all_eq_true.1 (show ([ncG] : List Value).all (okV (fun l => Nat.blt l 74) 3) = true from by kernel_rfl) v hv)⟩,⟨rfl,rfl,fun v hv => okV_bnd 3 v (List.all_eq_true.1 (show ([.pointer (some ⟨67,0,none⟩)] : List Value).all (okV (fun l => Nat.blt l 74) 3) = true from by kernel_rfl) v hv)⟩,
   ⟨rfl,rfl,fun v hv => by obtain rfl:=List.mem_singleton.1 hv; exact bnd_flat0 _ rfl⟩,⟨rfl,rfl,fun v hv => by obtain rfl:=List.mem_singleton.1 hv; exact rdV_bnd rfl rfl⟩,⟨rfl,rfl,flat_bnd (u8s_flat bs)⟩,⟨rfl,rfl,fun v hv => okV_bnd 3 v (mr_cok hy rfl rfl _ rfl v hv)⟩,trivial⟩ rfl (fun x hx => by
  have : (mrI0 y0 y1 y2 y3 y4 y5 bs off m b).e.all (fun x => okV (fun l => Nat.blt l 74) 3 x.2) = true:=by kernel_rfl
  exact List.all_eq_true.1 this x hx)⟩
theorem mr_wf1 (y0 y1 y2 y3 y4 y5 : Value) (bs : List UInt8) (acc : List Rl) (off m : Nat) (b : Bool) (hy : YOk y0 y1 y2 y3 y4 y5) : (mrI1 y0 y1 y2 y3 y4 y5 bs acc off m b).Wf :=
 ⟨by show NG ≤ 75; decide,Sf.Ok.mk' 3 ⟨⟨rfl,rfl,fun v hv => okV_bnd 3 v (List.all_eq_true.1 (show ([ncG] : List Value).all (okV (fun l => Nat.blt l 75) 3) = true from by kernel_rfl) v hv)⟩,⟨rfl,rfl,fun v hv => okV_bnd 3 v (List.all_eq_true.1 (show ([.pointer (some ⟨67,0,none⟩)] : List Value).all (okV (fun l => Nat.blt l 75) 3) = true from by kernel_rfl) v hv)⟩,
   ⟨rfl,rfl,fun v hv => by obtain rfl:=List.mem_singleton.1 hv; exact bnd_flat0 _ rfl⟩,⟨rfl,rfl,fun v hv => by obtain rfl:=List.mem_singleton.1 hv; exact rdV_bnd rfl rfl⟩,⟨rfl,rfl,flat_bnd (u8s_flat bs)⟩,⟨rfl,rfl,fun v hv => okV_bnd 3 v (mr_cok hy rfl rfl _ (sl_ok rfl) v hv)⟩,⟨rfl,rfl,flat_bnd (rels_flat acc)⟩,trivial⟩ rfl (fun x hx => by
  have : (mrI1 y0 y1 y2 y3 y4 y5 bs acc off m b).e.all (fun x => okV (fun l => Nat.blt l 75) 3 x.2) = true:=by kernel_rfl
  exact List.all_eq_true.1 this x hx)⟩
theorem mrF_ok (y0 y1 y2 y3 y4 y5 : Value) (bs : List UInt8) (acc : List Rl) (off : Nat) (b : Bool) (hy : YOk y0 y1 y2 y3 y4 y5) (q : Nat → Bool) (h66 : q 66 = true) (h67 : q 67 = true) (h68 : q 68 = true) (h70 : q 70 = true) (h71 : q 71 = true) (h72 : q 72 = true) (h75 : q 75 = true) (h76 : q 76 = true) : (mrF y0 y1 y2 y3 y4 y5 bs acc off b).Ok q :=
 ⟨⟨⟨h66,rfl,fun v hv => by obtain rfl:=List.mem_singleton.1 hv; exact bnd_flat0 _ rfl⟩,⟨h67,rfl,fun v hv => by obtain rfl:=List.mem_singleton.1 hv; exact rdV_bnd h68 h75⟩,⟨h70,rfl,fun v hv => okV_bnd 3 v (mr_cok hy h71 h72 _ (sl_ok h76) v hv)⟩,⟨h76,h76,flat_bnd (rels_flat acc)⟩,trivial⟩,by simp [mrF,h75,h76],fun x hx => by cases hx⟩
def mrσ0 (l : Nat) : Nat:=if l = 73 then 80 else if l = 74 then 82 else l
def mrσ1 (l : Nat) : Nat:=if l = 73 then 81 else if l = 74 then 83 else l
def mrτ (l : Nat) : Nat:=if l = 75 then 73 else if l = 76 then 74 else l
theorem mr_step_n0t (y0 y1 y2 y3 y4 y5 : Value) (bs : List UInt8)  (k off : Nat) (fa : List Rl) (fo : Nat) (fb : Bool) (hy : YOk y0 y1 y2 y3 y4 y5) (ho : off ≤ 1000000000) (hl : bs.length ≤ 1000000000) (ha : ([] : List Rl).length + k + 1 ≤ 100000) (hk : rB4 off bs = true) :
  ∃ g,evC Try.prog (evF Try.prog (baseC 3 (selNcc 67 68 [(75,off,true,73),(76,rO1 off bs,rB1 off bs,75),(77,rO2 off bs,rB2 off bs,76),(78,rO3 off bs,rB3 off bs,77),(79,rO4 off bs,(rKd off bs),78),(80,rO5 off bs,(rKd off bs && numIs 2 (rO4 off bs) bs),79)] bs)) noLoop 100 5) (noLoop 42) 25 100 (loopOf Try.prog 42 0) ((mrI0 y0 y1 y2 y3 y4 y5 bs off (k + 1) true).frT 25 [(0,true),(1,true),(2,true),(3,true),(4,true),(5,true),(6,false)]) = some (.normal,g) ∧ g.s.O ∧ Sf.Leads 3 (fun l => Nat.blt l 75) mrσ0 (mrI0 y0 y1 y2 y3 y4 y5 bs off (k + 1) true) g (mrI1 y0 y1 y2 y3 y4 y5 bs (([] : List Rl) ++ [rRl off bs]) (rO6 off bs) k (rI off bs)) (mrF y0 y1 y2 y3 y4 y5 bs fa fo fb):=by
 have hh:=mr_n0t y0 y1 y2 y3 y4 y5 bs off (k + 1) true (rO1 off bs) (rO2 off bs) (rO3 off bs) (rO4 off bs) (rO5 off bs) (rB1 off bs) (rB2 off bs) (rB3 off bs) (rKd off bs) (rKd off bs && numIs 2 (rO4 off bs) bs)
 have l0_67 : lift 69 75 [65,66,67,68,73] 67 = 68:=rfl
 have l0_68 : lift 69 75 [65,66,67,68,73] 68 = 73:=rfl
 have l0_69 : lift 69 75 [65,66,67,68,73] 69 = 75:=rfl
 have l1_67 : lift 69 76 [65,66,67,68,75] 67 = 68:=rfl
 have l1_68 : lift 69 76 [65,66,67,68,75] 68 = 75:=rfl
 have l1_69 : lift 69 76 [65,66,67,68,75] 69 = 76:=rfl
 have l2_67 : lift 69 77 [65,66,67,68,76] 67 = 68:=rfl
 have l2_68 : lift 69 77 [65,66,67,68,76] 68 = 76:=rfl
 have l2_69 : lift 69 77 [65,66,67,68,76] 69 = 77:=rfl
 have l3_67 : lift 69 78 [65,66,67,68,77] 67 = 68:=rfl
 have l3_68 : lift 69 78 [65,66,67,68,77] 68 = 77:=rfl
 have l3_69 : lift 69 78 [65,66,67,68,77] 69 = 78:=rfl
 have l4_67 : lift 69 79 [65,66,67,68,78] 67 = 68:=rfl
 have l4_68 : lift 69 79 [65,66,67,68,78] 68 = 78:=rfl
 have l4_69 : lift 69 79 [65,66,67,68,78] 69 = 79:=rfl
 have l5_67 : lift 69 80 [65,66,67,68,79] 67 = 68:=rfl
 have l5_68 : lift 69 80 [65,66,67,68,79] 68 = 79:=rfl
 have l5_69 : lift 69 80 [65,66,67,68,79] 69 = 80:=rfl
 have c1 : IntKind.u16.wrap (numV 2 (rO4 off bs) bs : Int) = (numV 2 (rO4 off bs) bs : Int):=w16 _ numV2_lt
 have c2 : IntKind.u16.wrap (numV 2 (rO5 off bs) bs : Int) = (numV 2 (rO5 off bs) bs : Int):=w16 _ numV2_lt
 have d1 : numO 4 off bs = rO1 off bs:=rfl
 have d2 : numO 4 (rO1 off bs) bs = rO2 off bs:=rfl
 have d3 : numO 4 (rO2 off bs) bs = rO3 off bs:=rfl
 have d4 : numO 1 (rO3 off bs) bs = rO4 off bs:=rfl
 have d5 : numO 2 (rO4 off bs) bs = rO5 off bs:=rfl
 have d6 : numO 2 (rO5 off bs) bs = rO6 off bs:=rfl
 have x1 : numIs 4 off bs = rB1 off bs:=rfl
 have x2 : (rB1 off bs && numIs 4 (rO1 off bs) bs) = rB2 off bs:=rfl
 have x3 : (rB2 off bs && numIs 4 (rO2 off bs) bs) = rB3 off bs:=rfl
 have x4 : (rB3 off bs && numIs 1 (rO3 off bs) bs) = true:=hk
 have x5 : decide ((numV 1 (rO3 off bs) bs : Int) ≤ 1) = rKd off bs:=rfl
 have x6 : ((rKd off bs && numIs 2 (rO4 off bs) bs) && numIs 2 (rO5 off bs) bs) = rI off bs:=by unfold rI; rw [hk]; simp
 simp only [rr, tt, rdV_rn,l0_67,l0_68,l0_69,l1_67,l1_68,l1_69,l2_67,l2_68,l2_69,l3_67,l3_68,l3_69,l4_67,l4_68,l4_69,l5_67,l5_68,l5_69,c1,c2,d1,d2,d3,d4,d5,d6,rels_app1,rels_one,lenT_eq,rels_len,Bool.true_and,Bool.false_and,x1,x2,x3,x4,x5] at hh
 simp only [rr, tt, x6] at hh
 refine ⟨_,hh,?_,?_⟩
 ·have e2 : ∀ o : Nat,okV (fun l => Nat.blt l 69) 3 (rdV 67 o bs 68) = true:=fun o => rdV_ok rfl rfl
  have f5 : ∀ xs p d,(u8s xs).all (okV p d) = true:=fun xs _ _ => flat_all (u8s_flat xs)
  have f6 : ∀ xs σ d,(u8s xs).map (rnV σ d) = u8s xs:=fun xs _ _ => flat_map (u8s_flat xs)
  have m1 : decide (((k + 1 : Nat) : Int) > (0 : Int)) = true:=by simp
  obtain ⟨q1,q2,q3,q4,q5,q6⟩:=rO6_le (off:=off) (bs:=bs) ho hl
  have hn : NumOk 4 off bs:=⟨.inr (.inr rfl),ho,hl⟩
  have hn1 : NumOk 4 (rO1 off bs) bs:=⟨.inr (.inr rfl),q1,hl⟩
  have hn2 : NumOk 4 (rO2 off bs) bs:=⟨.inr (.inr rfl),q2,hl⟩
  have hn3 : NumOk 1 (rO3 off bs) bs:=⟨.inl rfl,q3,hl⟩
  have hn4 : NumOk 2 (rO4 off bs) bs:=⟨.inr (.inl rfl),q4,hl⟩
  have hn5 : NumOk 2 (rO5 off bs) bs:=⟨.inr (.inl rfl),q5,hl⟩
  have g1 : ∀ n,Nat.ble n 0 = decide (n = 0):=fun n => by cases n <;> rfl
  simp (disch:=omega) only [rr, tt, e2,f5,f6,m1,hn,hn1,hn2,hn3,hn4,hn5,ble_t,blt_t,beq_t,rels_len,oneC_rels,Bool.and_self,cond_true,and_true,true_and,and_self,Nat.le_refl]
  skip
 ·refine ⟨fun l hl => ?_,⟨⟨rfl,by kernel_rfl,rfl,rfl,rfl,trivial,by kernel_rfl⟩,⟨rfl,by kernel_rfl,rfl,rfl,rfl,trivial,by kernel_rfl⟩,⟨rfl,by kernel_rfl,rfl,rfl,rfl,trivial,by kernel_rfl⟩,⟨rfl,by simp only [rr, tt, List.all_cons,List.all_nil,Bool.and_true]; exact rdV_ok rfl rfl,rfl,rfl,rfl,trivial,by simp only [rr, tt, List.map_cons,List.map_nil,rdV_rn]; rfl⟩,⟨rfl,flat_all (u8s_flat _),rfl,rfl,rfl,trivial,(flat_map (u8s_flat _)).symm⟩,
    ⟨rfl,List.all_eq_true.2 (mr_cok hy rfl rfl _ (sl_ok rfl)),rfl,rfl,rfl,trivial,((mr_crn hy rfl rfl _ _ (sl_rn mrσ0 74 _)).trans (by rfl)).symm⟩,⟨rfl,flat_all (rels_flat _),rfl,rfl,rfl,trivial,(flat_map (rels_flat _)).symm⟩,trivial⟩,rfl,⟨⟨rfl,Nat.le_refl _⟩,⟨rfl,(Nat.le_refl 1)⟩,trivial⟩,
   ⟨⟨by kernel_rfl,by kernel_rfl⟩,⟨by kernel_rfl,by kernel_rfl⟩,⟨rfl,?_⟩,trivial⟩,by show 74 ≤ 75; omega,fun l hl => blt_no hl,mrF_ok y0 y1 y2 y3 y4 y5 bs fa fo fb hy _ rfl rfl rfl rfl rfl rfl rfl rfl,?_⟩
  ·unfold mrσ0; have : NG ≤ 66:=by decide
   rw [if_neg (by omega),if_neg (by omega)]
  ·refine Eq.trans (b:=Value.int .u32 (IntKind.u32.wrap (((k + 1 : Nat) : Int) - 1))) (by kernel_rfl) ?_
   rw [show (((k + 1 : Nat) : Int) - 1) = ((k : Nat) : Int) by omega,u32_nat k (by omega)]; rfl
  ·intro x hx hrw
   simp only [rr, tt, mrI1,List.mem_cons,List.not_mem_nil,or_false] at hx
   rcases hx with rfl | rfl | rfl | rfl | rfl | rfl | rfl <;> first | exact .inl rfl | cases hrw
theorem mr_step_n1t (y0 y1 y2 y3 y4 y5 : Value) (bs : List UInt8) (acc : List Rl) (k off : Nat) (fa : List Rl) (fo : Nat) (fb : Bool) (hy : YOk y0 y1 y2 y3 y4 y5) (ho : off ≤ 1000000000) (hl : bs.length ≤ 1000000000) (ha : acc.length + k + 1 ≤ 100000) (hk : rB4 off bs = true) :
  ∃ g,evC Try.prog (evF Try.prog (baseC 3 (selNcc 67 68 [(76,off,true,73),(77,rO1 off bs,rB1 off bs,76),(78,rO2 off bs,rB2 off bs,77),(79,rO3 off bs,rB3 off bs,78),(80,rO4 off bs,(rKd off bs),79),(81,rO5 off bs,(rKd off bs && numIs 2 (rO4 off bs) bs),80)] bs)) noLoop 100 5) (noLoop 42) 25 100 (loopOf Try.prog 42 0) ((mrI1 y0 y1 y2 y3 y4 y5 bs acc off (k + 1) true).frT 25 [(0,true),(1,true),(2,true),(3,true),(4,true),(5,true)]) = some (.normal,g) ∧ g.s.O ∧ Sf.Leads 3 (fun l => Nat.blt l 75) mrσ1 (mrI1 y0 y1 y2 y3 y4 y5 bs acc off (k + 1) true) g (mrI1 y0 y1 y2 y3 y4 y5 bs (acc ++ [rRl off bs]) (rO6 off bs) k (rI off bs)) (mrF y0 y1 y2 y3 y4 y5 bs fa fo fb):=by
 have hh:=mr_n1t y0 y1 y2 y3 y4 y5 bs acc off (k + 1) true (rO1 off bs) (rO2 off bs) (rO3 off bs) (rO4 off bs) (rO5 off bs) (rB1 off bs) (rB2 off bs) (rB3 off bs) (rKd off bs) (rKd off bs && numIs 2 (rO4 off bs) bs)
 have l0_67 : lift 69 76 [65,66,67,68,73] 67 = 68:=rfl
 have l0_68 : lift 69 76 [65,66,67,68,73] 68 = 73:=rfl
 have l0_69 : lift 69 76 [65,66,67,68,73] 69 = 76:=rfl
 have l1_67 : lift 69 77 [65,66,67,68,76] 67 = 68:=rfl
 have l1_68 : lift 69 77 [65,66,67,68,76] 68 = 76:=rfl
 have l1_69 : lift 69 77 [65,66,67,68,76] 69 = 77:=rfl
 have l2_67 : lift 69 78 [65,66,67,68,77] 67 = 68:=rfl
 have l2_68 : lift 69 78 [65,66,67,68,77] 68 = 77:=rfl
 have l2_69 : lift 69 78 [65,66,67,68,77] 69 = 78:=rfl
 have l3_67 : lift 69 79 [65,66,67,68,78] 67 = 68:=rfl
 have l3_68 : lift 69 79 [65,66,67,68,78] 68 = 78:=rfl
 have l3_69 : lift 69 79 [65,66,67,68,78] 69 = 79:=rfl
 have l4_67 : lift 69 80 [65,66,67,68,79] 67 = 68:=rfl
 have l4_68 : lift 69 80 [65,66,67,68,79] 68 = 79:=rfl
 have l4_69 : lift 69 80 [65,66,67,68,79] 69 = 80:=rfl
 have l5_67 : lift 69 81 [65,66,67,68,80] 67 = 68:=rfl
 have l5_68 : lift 69 81 [65,66,67,68,80] 68 = 80:=rfl
 have l5_69 : lift 69 81 [65,66,67,68,80] 69 = 81:=rfl
 have c1 : IntKind.u16.wrap (numV 2 (rO4 off bs) bs : Int) = (numV 2 (rO4 off bs) bs : Int):=w16 _ numV2_lt
 have c2 : IntKind.u16.wrap (numV 2 (rO5 off bs) bs : Int) = (numV 2 (rO5 off bs) bs : Int):=w16 _ numV2_lt
 have d1 : numO 4 off bs = rO1 off bs:=rfl
 have d2 : numO 4 (rO1 off bs) bs = rO2 off bs:=rfl
 have d3 : numO 4 (rO2 off bs) bs = rO3 off bs:=rfl
 have d4 : numO 1 (rO3 off bs) bs = rO4 off bs:=rfl
 have d5 : numO 2 (rO4 off bs) bs = rO5 off bs:=rfl
 have d6 : numO 2 (rO5 off bs) bs = rO6 off bs:=rfl
 have x1 : numIs 4 off bs = rB1 off bs:=rfl
 have x2 : (rB1 off bs && numIs 4 (rO1 off bs) bs) = rB2 off bs:=rfl
 have x3 : (rB2 off bs && numIs 4 (rO2 off bs) bs) = rB3 off bs:=rfl
 have x4 : (rB3 off bs && numIs 1 (rO3 off bs) bs) = true:=hk
 have x5 : decide ((numV 1 (rO3 off bs) bs : Int) ≤ 1) = rKd off bs:=rfl
 have x6 : ((rKd off bs && numIs 2 (rO4 off bs) bs) && numIs 2 (rO5 off bs) bs) = rI off bs:=by unfold rI; rw [hk]; simp
 simp only [rr, tt, rdV_rn,l0_67,l0_68,l0_69,l1_67,l1_68,l1_69,l2_67,l2_68,l2_69,l3_67,l3_68,l3_69,l4_67,l4_68,l4_69,l5_67,l5_68,l5_69,c1,c2,d1,d2,d3,d4,d5,d6,rels_app1,lenT_eq,rels_len,Bool.true_and,Bool.false_and,x1,x2,x3,x4,x5] at hh
 simp only [rr, tt, x6] at hh
 refine ⟨_,hh,?_,?_⟩
 ·have e2 : ∀ o : Nat,okV (fun l => Nat.blt l 69) 3 (rdV 67 o bs 68) = true:=fun o => rdV_ok rfl rfl
  have f5 : ∀ xs p d,(u8s xs).all (okV p d) = true:=fun xs _ _ => flat_all (u8s_flat xs)
  have f6 : ∀ xs σ d,(u8s xs).map (rnV σ d) = u8s xs:=fun xs _ _ => flat_map (u8s_flat xs)
  have m1 : decide (((k + 1 : Nat) : Int) > (0 : Int)) = true:=by simp
  obtain ⟨q1,q2,q3,q4,q5,q6⟩:=rO6_le (off:=off) (bs:=bs) ho hl
  have hn : NumOk 4 off bs:=⟨.inr (.inr rfl),ho,hl⟩
  have hn1 : NumOk 4 (rO1 off bs) bs:=⟨.inr (.inr rfl),q1,hl⟩
  have hn2 : NumOk 4 (rO2 off bs) bs:=⟨.inr (.inr rfl),q2,hl⟩
  have hn3 : NumOk 1 (rO3 off bs) bs:=⟨.inl rfl,q3,hl⟩
  have hn4 : NumOk 2 (rO4 off bs) bs:=⟨.inr (.inl rfl),q4,hl⟩
  have hn5 : NumOk 2 (rO5 off bs) bs:=⟨.inr (.inl rfl),q5,hl⟩
  have g1 : ∀ n,Nat.ble n 0 = decide (n = 0):=fun n => by cases n <;> rfl
  simp (disch:=omega) only [rr, tt, e2,f5,f6,m1,hn,hn1,hn2,hn3,hn4,hn5,ble_t,blt_t,beq_t,rels_len,oneC_rels,Bool.and_self,cond_true,and_true,true_and,and_self,Nat.le_refl]
  skip
 ·refine ⟨fun l hl => ?_,⟨⟨rfl,by kernel_rfl,rfl,rfl,rfl,trivial,by kernel_rfl⟩,⟨rfl,by kernel_rfl,rfl,rfl,rfl,trivial,by kernel_rfl⟩,⟨rfl,by kernel_rfl,rfl,rfl,rfl,trivial,by kernel_rfl⟩,⟨rfl,by simp only [rr, tt, List.all_cons,List.all_nil,Bool.and_true]; exact rdV_ok rfl rfl,rfl,rfl,rfl,trivial,by simp only [rr, tt, List.map_cons,List.map_nil,rdV_rn]; rfl⟩,⟨rfl,flat_all (u8s_flat _),rfl,rfl,rfl,trivial,(flat_map (u8s_flat _)).symm⟩,
    ⟨rfl,List.all_eq_true.2 (mr_cok hy rfl rfl _ (sl_ok rfl)),rfl,rfl,rfl,trivial,((mr_crn hy rfl rfl _ _ (sl_rn mrσ1 74 _)).trans (by simp only [rr, tt, List.length_append,List.length_cons,List.length_nil]; rfl)).symm⟩,⟨rfl,flat_all (rels_flat _),rfl,rfl,rfl,trivial,(flat_map (rels_flat _)).symm⟩,trivial⟩,rfl,⟨⟨rfl,Nat.le_refl _⟩,⟨rfl,by show (acc ++ [rRl off bs]).length ≤ acc.length + 1; simp⟩,trivial⟩,
   ⟨⟨by kernel_rfl,by kernel_rfl⟩,⟨by kernel_rfl,by kernel_rfl⟩,⟨rfl,?_⟩,trivial⟩,by show 75 ≤ 75; omega,fun l hl => blt_no hl,mrF_ok y0 y1 y2 y3 y4 y5 bs fa fo fb hy _ rfl rfl rfl rfl rfl rfl rfl rfl,?_⟩
  ·unfold mrσ1; have : NG ≤ 66:=by decide
   rw [if_neg (by omega),if_neg (by omega)]
  ·refine Eq.trans (b:=Value.int .u32 (IntKind.u32.wrap (((k + 1 : Nat) : Int) - 1))) (by kernel_rfl) ?_
   rw [show (((k + 1 : Nat) : Int) - 1) = ((k : Nat) : Int) by omega,u32_nat k (by omega)]; rfl
  ·intro x hx hrw
   simp only [rr, tt, mrI1,List.mem_cons,List.not_mem_nil,or_false] at hx
   rcases hx with rfl | rfl | rfl | rfl | rfl | rfl | rfl <;> first | exact .inl rfl | cases hrw
theorem mr_step_n0f (y0 y1 y2 y3 y4 y5 : Value) (bs : List UInt8)  (k off : Nat) (fa : List Rl) (fo : Nat) (fb : Bool) (hy : YOk y0 y1 y2 y3 y4 y5) (ho : off ≤ 1000000000) (hl : bs.length ≤ 1000000000) (ha : ([] : List Rl).length + k + 1 ≤ 100000) (hk : rB4 off bs = false) :
  ∃ g,evC Try.prog (evF Try.prog (baseC 3 (selNcc 67 68 [(75,off,true,73),(76,rO1 off bs,rB1 off bs,75),(77,rO2 off bs,rB2 off bs,76),(78,rO3 off bs,rB3 off bs,77),(79,rO4 off bs,false,78),(80,rO5 off bs,false,79)] bs)) noLoop 100 5) (noLoop 42) 25 100 (loopOf Try.prog 42 0) ((mrI0 y0 y1 y2 y3 y4 y5 bs off (k + 1) true).frT 25 [(0,true),(1,true),(2,true),(3,false),(4,false),(5,false),(6,false)]) = some (.normal,g) ∧ g.s.O ∧ Sf.Leads 3 (fun l => Nat.blt l 75) mrσ0 (mrI0 y0 y1 y2 y3 y4 y5 bs off (k + 1) true) g (mrI1 y0 y1 y2 y3 y4 y5 bs (([] : List Rl) ++ [rRl off bs]) (rO6 off bs) k (rI off bs)) (mrF y0 y1 y2 y3 y4 y5 bs fa fo fb):=by
 have hh:=mr_n0f y0 y1 y2 y3 y4 y5 bs off (k + 1) true (rO1 off bs) (rO2 off bs) (rO3 off bs) (rO4 off bs) (rO5 off bs) (rB1 off bs) (rB2 off bs) (rB3 off bs) false false
 have l0_67 : lift 69 75 [65,66,67,68,73] 67 = 68:=rfl
 have l0_68 : lift 69 75 [65,66,67,68,73] 68 = 73:=rfl
 have l0_69 : lift 69 75 [65,66,67,68,73] 69 = 75:=rfl
 have l1_67 : lift 69 76 [65,66,67,68,75] 67 = 68:=rfl
 have l1_68 : lift 69 76 [65,66,67,68,75] 68 = 75:=rfl
 have l1_69 : lift 69 76 [65,66,67,68,75] 69 = 76:=rfl
 have l2_67 : lift 69 77 [65,66,67,68,76] 67 = 68:=rfl
 have l2_68 : lift 69 77 [65,66,67,68,76] 68 = 76:=rfl
 have l2_69 : lift 69 77 [65,66,67,68,76] 69 = 77:=rfl
 have l3_67 : lift 69 78 [65,66,67,68,77] 67 = 68:=rfl
 have l3_68 : lift 69 78 [65,66,67,68,77] 68 = 77:=rfl
 have l3_69 : lift 69 78 [65,66,67,68,77] 69 = 78:=rfl
 have l4_67 : lift 69 79 [65,66,67,68,78] 67 = 68:=rfl
 have l4_68 : lift 69 79 [65,66,67,68,78] 68 = 78:=rfl
 have l4_69 : lift 69 79 [65,66,67,68,78] 69 = 79:=rfl
 have l5_67 : lift 69 80 [65,66,67,68,79] 67 = 68:=rfl
 have l5_68 : lift 69 80 [65,66,67,68,79] 68 = 79:=rfl
 have l5_69 : lift 69 80 [65,66,67,68,79] 69 = 80:=rfl
 have c1 : IntKind.u16.wrap (numV 2 (rO4 off bs) bs : Int) = (numV 2 (rO4 off bs) bs : Int):=w16 _ numV2_lt
 have c2 : IntKind.u16.wrap (numV 2 (rO5 off bs) bs : Int) = (numV 2 (rO5 off bs) bs : Int):=w16 _ numV2_lt
 have d1 : numO 4 off bs = rO1 off bs:=rfl
 have d2 : numO 4 (rO1 off bs) bs = rO2 off bs:=rfl
 have d3 : numO 4 (rO2 off bs) bs = rO3 off bs:=rfl
 have d4 : numO 1 (rO3 off bs) bs = rO4 off bs:=rfl
 have d5 : numO 2 (rO4 off bs) bs = rO5 off bs:=rfl
 have d6 : numO 2 (rO5 off bs) bs = rO6 off bs:=rfl
 have x1 : numIs 4 off bs = rB1 off bs:=rfl
 have x2 : (rB1 off bs && numIs 4 (rO1 off bs) bs) = rB2 off bs:=rfl
 have x3 : (rB2 off bs && numIs 4 (rO2 off bs) bs) = rB3 off bs:=rfl
 have x4 : (rB3 off bs && numIs 1 (rO3 off bs) bs) = false:=hk
 have x5 : decide ((numV 1 (rO3 off bs) bs : Int) ≤ 1) = rKd off bs:=rfl
 have x6 : rI off bs = false:=by unfold rI; rw [hk]; simp
 simp only [rr, tt, rdV_rn,l0_67,l0_68,l0_69,l1_67,l1_68,l1_69,l2_67,l2_68,l2_69,l3_67,l3_68,l3_69,l4_67,l4_68,l4_69,l5_67,l5_68,l5_69,c1,c2,d1,d2,d3,d4,d5,d6,rels_app1,rels_one,lenT_eq,rels_len,Bool.true_and,Bool.false_and,x1,x2,x3,x4,x5] at hh
 rw [x6]
 refine ⟨_,hh,?_,?_⟩
 ·have e2 : ∀ o : Nat,okV (fun l => Nat.blt l 69) 3 (rdV 67 o bs 68) = true:=fun o => rdV_ok rfl rfl
  have f5 : ∀ xs p d,(u8s xs).all (okV p d) = true:=fun xs _ _ => flat_all (u8s_flat xs)
  have f6 : ∀ xs σ d,(u8s xs).map (rnV σ d) = u8s xs:=fun xs _ _ => flat_map (u8s_flat xs)
  have m1 : decide (((k + 1 : Nat) : Int) > (0 : Int)) = true:=by simp
  obtain ⟨q1,q2,q3,q4,q5,q6⟩:=rO6_le (off:=off) (bs:=bs) ho hl
  have hn : NumOk 4 off bs:=⟨.inr (.inr rfl),ho,hl⟩
  have hn1 : NumOk 4 (rO1 off bs) bs:=⟨.inr (.inr rfl),q1,hl⟩
  have hn2 : NumOk 4 (rO2 off bs) bs:=⟨.inr (.inr rfl),q2,hl⟩
  have hn3 : NumOk 1 (rO3 off bs) bs:=⟨.inl rfl,q3,hl⟩
  have hn4 : NumOk 2 (rO4 off bs) bs:=⟨.inr (.inl rfl),q4,hl⟩
  have hn5 : NumOk 2 (rO5 off bs) bs:=⟨.inr (.inl rfl),q5,hl⟩
  have g1 : ∀ n,Nat.ble n 0 = decide (n = 0):=fun n => by cases n <;> rfl
  simp (disch:=omega) only [rr, tt, e2,f5,f6,m1,hn,hn1,hn2,hn3,hn4,hn5,ble_t,blt_t,beq_t,rels_len,oneC_rels,Bool.and_self,cond_true,and_true,true_and,and_self,Nat.le_refl]
  skip
 ·refine ⟨fun l hl => ?_,⟨⟨rfl,by kernel_rfl,rfl,rfl,rfl,trivial,by kernel_rfl⟩,⟨rfl,by kernel_rfl,rfl,rfl,rfl,trivial,by kernel_rfl⟩,⟨rfl,by kernel_rfl,rfl,rfl,rfl,trivial,by kernel_rfl⟩,⟨rfl,by simp only [rr, tt, List.all_cons,List.all_nil,Bool.and_true]; exact rdV_ok rfl rfl,rfl,rfl,rfl,trivial,by simp only [rr, tt, List.map_cons,List.map_nil,rdV_rn]; rfl⟩,⟨rfl,flat_all (u8s_flat _),rfl,rfl,rfl,trivial,(flat_map (u8s_flat _)).symm⟩,
    ⟨rfl,List.all_eq_true.2 (mr_cok hy rfl rfl _ (sl_ok rfl)),rfl,rfl,rfl,trivial,((mr_crn hy rfl rfl _ _ (sl_rn mrσ0 74 _)).trans (by rfl)).symm⟩,⟨rfl,flat_all (rels_flat _),rfl,rfl,rfl,trivial,(flat_map (rels_flat _)).symm⟩,trivial⟩,rfl,⟨⟨rfl,Nat.le_refl _⟩,⟨rfl,(Nat.le_refl 1)⟩,trivial⟩,
   ⟨⟨by kernel_rfl,by kernel_rfl⟩,⟨by kernel_rfl,by kernel_rfl⟩,⟨rfl,?_⟩,trivial⟩,by show 74 ≤ 75; omega,fun l hl => blt_no hl,mrF_ok y0 y1 y2 y3 y4 y5 bs fa fo fb hy _ rfl rfl rfl rfl rfl rfl rfl rfl,?_⟩
  ·unfold mrσ0; have : NG ≤ 66:=by decide
   rw [if_neg (by omega),if_neg (by omega)]
  ·refine Eq.trans (b:=Value.int .u32 (IntKind.u32.wrap (((k + 1 : Nat) : Int) - 1))) (by kernel_rfl) ?_
   rw [show (((k + 1 : Nat) : Int) - 1) = ((k : Nat) : Int) by omega,u32_nat k (by omega)]; rfl
  ·intro x hx hrw
   simp only [rr, tt, mrI1,List.mem_cons,List.not_mem_nil,or_false] at hx
   rcases hx with rfl | rfl | rfl | rfl | rfl | rfl | rfl <;> first | exact .inl rfl | cases hrw
theorem mr_step_n1f (y0 y1 y2 y3 y4 y5 : Value) (bs : List UInt8) (acc : List Rl) (k off : Nat) (fa : List Rl) (fo : Nat) (fb : Bool) (hy : YOk y0 y1 y2 y3 y4 y5) (ho : off ≤ 1000000000) (hl : bs.length ≤ 1000000000) (ha : acc.length + k + 1 ≤ 100000) (hk : rB4 off bs = false) :
  ∃ g,evC Try.prog (evF Try.prog (baseC 3 (selNcc 67 68 [(76,off,true,73),(77,rO1 off bs,rB1 off bs,76),(78,rO2 off bs,rB2 off bs,77),(79,rO3 off bs,rB3 off bs,78),(80,rO4 off bs,false,79),(81,rO5 off bs,false,80)] bs)) noLoop 100 5) (noLoop 42) 25 100 (loopOf Try.prog 42 0) ((mrI1 y0 y1 y2 y3 y4 y5 bs acc off (k + 1) true).frT 25 [(0,true),(1,true),(2,true),(3,false),(4,false),(5,false)]) = some (.normal,g) ∧ g.s.O ∧ Sf.Leads 3 (fun l => Nat.blt l 75) mrσ1 (mrI1 y0 y1 y2 y3 y4 y5 bs acc off (k + 1) true) g (mrI1 y0 y1 y2 y3 y4 y5 bs (acc ++ [rRl off bs]) (rO6 off bs) k (rI off bs)) (mrF y0 y1 y2 y3 y4 y5 bs fa fo fb):=by
 have hh:=mr_n1f y0 y1 y2 y3 y4 y5 bs acc off (k + 1) true (rO1 off bs) (rO2 off bs) (rO3 off bs) (rO4 off bs) (rO5 off bs) (rB1 off bs) (rB2 off bs) (rB3 off bs) false false
 have l0_67 : lift 69 76 [65,66,67,68,73] 67 = 68:=rfl
 have l0_68 : lift 69 76 [65,66,67,68,73] 68 = 73:=rfl
 have l0_69 : lift 69 76 [65,66,67,68,73] 69 = 76:=rfl
 have l1_67 : lift 69 77 [65,66,67,68,76] 67 = 68:=rfl
 have l1_68 : lift 69 77 [65,66,67,68,76] 68 = 76:=rfl
 have l1_69 : lift 69 77 [65,66,67,68,76] 69 = 77:=rfl
 have l2_67 : lift 69 78 [65,66,67,68,77] 67 = 68:=rfl
 have l2_68 : lift 69 78 [65,66,67,68,77] 68 = 77:=rfl
 have l2_69 : lift 69 78 [65,66,67,68,77] 69 = 78:=rfl
 have l3_67 : lift 69 79 [65,66,67,68,78] 67 = 68:=rfl
 have l3_68 : lift 69 79 [65,66,67,68,78] 68 = 78:=rfl
 have l3_69 : lift 69 79 [65,66,67,68,78] 69 = 79:=rfl
 have l4_67 : lift 69 80 [65,66,67,68,79] 67 = 68:=rfl
 have l4_68 : lift 69 80 [65,66,67,68,79] 68 = 79:=rfl
 have l4_69 : lift 69 80 [65,66,67,68,79] 69 = 80:=rfl
 have l5_67 : lift 69 81 [65,66,67,68,80] 67 = 68:=rfl
 have l5_68 : lift 69 81 [65,66,67,68,80] 68 = 80:=rfl
 have l5_69 : lift 69 81 [65,66,67,68,80] 69 = 81:=rfl
 have c1 : IntKind.u16.wrap (numV 2 (rO4 off bs) bs : Int) = (numV 2 (rO4 off bs) bs : Int):=w16 _ numV2_lt
 have c2 : IntKind.u16.wrap (numV 2 (rO5 off bs) bs : Int) = (numV 2 (rO5 off bs) bs : Int):=w16 _ numV2_lt
 have d1 : numO 4 off bs = rO1 off bs:=rfl
 have d2 : numO 4 (rO1 off bs) bs = rO2 off bs:=rfl
 have d3 : numO 4 (rO2 off bs) bs = rO3 off bs:=rfl
 have d4 : numO 1 (rO3 off bs) bs = rO4 off bs:=rfl
 have d5 : numO 2 (rO4 off bs) bs = rO5 off bs:=rfl
 have d6 : numO 2 (rO5 off bs) bs = rO6 off bs:=rfl
 have x1 : numIs 4 off bs = rB1 off bs:=rfl
 have x2 : (rB1 off bs && numIs 4 (rO1 off bs) bs) = rB2 off bs:=rfl
 have x3 : (rB2 off bs && numIs 4 (rO2 off bs) bs) = rB3 off bs:=rfl
 have x4 : (rB3 off bs && numIs 1 (rO3 off bs) bs) = false:=hk
 have x5 : decide ((numV 1 (rO3 off bs) bs : Int) ≤ 1) = rKd off bs:=rfl
 have x6 : rI off bs = false:=by unfold rI; rw [hk]; simp
 simp only [rr, tt, rdV_rn,l0_67,l0_68,l0_69,l1_67,l1_68,l1_69,l2_67,l2_68,l2_69,l3_67,l3_68,l3_69,l4_67,l4_68,l4_69,l5_67,l5_68,l5_69,c1,c2,d1,d2,d3,d4,d5,d6,rels_app1,lenT_eq,rels_len,Bool.true_and,Bool.false_and,x1,x2,x3,x4,x5] at hh
 rw [x6]
 refine ⟨_,hh,?_,?_⟩
 ·have e2 : ∀ o : Nat,okV (fun l => Nat.blt l 69) 3 (rdV 67 o bs 68) = true:=fun o => rdV_ok rfl rfl
  have f5 : ∀ xs p d,(u8s xs).all (okV p d) = true:=fun xs _ _ => flat_all (u8s_flat xs)
  have f6 : ∀ xs σ d,(u8s xs).map (rnV σ d) = u8s xs:=fun xs _ _ => flat_map (u8s_flat xs)
  have m1 : decide (((k + 1 : Nat) : Int) > (0 : Int)) = true:=by simp
  obtain ⟨q1,q2,q3,q4,q5,q6⟩:=rO6_le (off:=off) (bs:=bs) ho hl
  have hn : NumOk 4 off bs:=⟨.inr (.inr rfl),ho,hl⟩
  have hn1 : NumOk 4 (rO1 off bs) bs:=⟨.inr (.inr rfl),q1,hl⟩
  have hn2 : NumOk 4 (rO2 off bs) bs:=⟨.inr (.inr rfl),q2,hl⟩
  have hn3 : NumOk 1 (rO3 off bs) bs:=⟨.inl rfl,q3,hl⟩
  have hn4 : NumOk 2 (rO4 off bs) bs:=⟨.inr (.inl rfl),q4,hl⟩
  have hn5 : NumOk 2 (rO5 off bs) bs:=⟨.inr (.inl rfl),q5,hl⟩
  have g1 : ∀ n,Nat.ble n 0 = decide (n = 0):=fun n => by cases n <;> rfl
  simp (disch:=omega) only [rr, tt, e2,f5,f6,m1,hn,hn1,hn2,hn3,hn4,hn5,ble_t,blt_t,beq_t,rels_len,oneC_rels,Bool.and_self,cond_true,and_true,true_and,and_self,Nat.le_refl]
  skip
 ·refine ⟨fun l hl => ?_,⟨⟨rfl,by kernel_rfl,rfl,rfl,rfl,trivial,by kernel_rfl⟩,⟨rfl,by kernel_rfl,rfl,rfl,rfl,trivial,by kernel_rfl⟩,⟨rfl,by kernel_rfl,rfl,rfl,rfl,trivial,by kernel_rfl⟩,⟨rfl,by simp only [rr, tt, List.all_cons,List.all_nil,Bool.and_true]; exact rdV_ok rfl rfl,rfl,rfl,rfl,trivial,by simp only [rr, tt, List.map_cons,List.map_nil,rdV_rn]; rfl⟩,⟨rfl,flat_all (u8s_flat _),rfl,rfl,rfl,trivial,(flat_map (u8s_flat _)).symm⟩,
    ⟨rfl,List.all_eq_true.2 (mr_cok hy rfl rfl _ (sl_ok rfl)),rfl,rfl,rfl,trivial,((mr_crn hy rfl rfl _ _ (sl_rn mrσ1 74 _)).trans (by simp only [rr, tt, List.length_append,List.length_cons,List.length_nil]; rfl)).symm⟩,⟨rfl,flat_all (rels_flat _),rfl,rfl,rfl,trivial,(flat_map (rels_flat _)).symm⟩,trivial⟩,rfl,⟨⟨rfl,Nat.le_refl _⟩,⟨rfl,by show (acc ++ [rRl off bs]).length ≤ acc.length + 1; simp⟩,trivial⟩,
   ⟨⟨by kernel_rfl,by kernel_rfl⟩,⟨by kernel_rfl,by kernel_rfl⟩,⟨rfl,?_⟩,trivial⟩,by show 75 ≤ 75; omega,fun l hl => blt_no hl,mrF_ok y0 y1 y2 y3 y4 y5 bs fa fo fb hy _ rfl rfl rfl rfl rfl rfl rfl rfl,?_⟩
  ·unfold mrσ1; have : NG ≤ 66:=by decide
   rw [if_neg (by omega),if_neg (by omega)]
  ·refine Eq.trans (b:=Value.int .u32 (IntKind.u32.wrap (((k + 1 : Nat) : Int) - 1))) (by kernel_rfl) ?_
   rw [show (((k + 1 : Nat) : Int) - 1) = ((k : Nat) : Int) by omega,u32_nat k (by omega)]; rfl
  ·intro x hx hrw
   simp only [rr, tt, mrI1,List.mem_cons,List.not_mem_nil,or_false] at hx
   rcases hx with rfl | rfl | rfl | rfl | rfl | rfl | rfl <;> first | exact .inl rfl | cases hrw
theorem mr_step_e1 (y0 y1 y2 y3 y4 y5 : Value) (bs : List UInt8) (acc : List Rl) (off m : Nat) (b : Bool) (hy : YOk y0 y1 y2 y3 y4 y5) (hm : m = 0) :
  ∃ g,evC Try.prog (evF Try.prog (baseC 3 (selNcc 67 68 [] bs)) noLoop 100 5) (noLoop 42) 25 100 (loopOf Try.prog 42 0) ((mrI1 y0 y1 y2 y3 y4 y5 bs acc off m b).frT 25 [(0,false),(1,false)]) = some (.exit 0,g) ∧ g.s.O ∧ Sf.Leads 3 (fun l => Nat.blt l 77) mrτ (mrI1 y0 y1 y2 y3 y4 y5 bs acc off m b) g (mrF y0 y1 y2 y3 y4 y5 bs acc off b) (mrF y0 y1 y2 y3 y4 y5 bs acc off b):=by
 refine ⟨_,mr_e1 y0 y1 y2 y3 y4 y5 bs acc off m b,?_,?_⟩
 ·subst hm; simp
 ·refine ⟨fun l hl => ?_,⟨⟨rfl,by kernel_rfl,rfl,rfl,rfl,trivial,by kernel_rfl⟩,⟨rfl,by simp only [rr, tt, List.all_cons,List.all_nil,Bool.and_true]; exact rdV_ok rfl rfl,rfl,rfl,rfl,trivial,by simp only [rr, tt, List.map_cons,List.map_nil,rdV_rn]; rfl⟩,
    ⟨rfl,List.all_eq_true.2 (mr_cok hy rfl rfl _ (sl_ok rfl)),rfl,rfl,rfl,trivial,(mr_crn hy rfl rfl _ _ (sl_rn mrτ 76 _)).symm⟩,⟨rfl,flat_all (rels_flat _),rfl,rfl,rfl,trivial,(flat_map (rels_flat _)).symm⟩,trivial⟩,rfl,⟨⟨rfl,Nat.le_refl _⟩,⟨rfl,Nat.le_refl _⟩,trivial⟩,
   trivial,by show 75 ≤ 77; omega,fun l hl => blt_no hl,mrF_ok y0 y1 y2 y3 y4 y5 bs acc off b hy _ rfl rfl rfl rfl rfl rfl rfl rfl,?_⟩
  ·unfold mrτ; have : NG ≤ 66:=by decide
   rw [if_neg (by omega),if_neg (by omega)]
  ·intro x hx hrw
   simp only [rr, tt, mrF,List.mem_cons,List.not_mem_nil,or_false] at hx
   rcases hx with rfl | rfl | rfl | rfl <;> cases hrw
theorem mr_step_e2 (y0 y1 y2 y3 y4 y5 : Value) (bs : List UInt8) (acc : List Rl) (off m : Nat) (b : Bool) (hy : YOk y0 y1 y2 y3 y4 y5) (hm : 0 < m) (hb : b = false) :
  ∃ g,evC Try.prog (evF Try.prog (baseC 3 (selNcc 67 68 [] bs)) noLoop 100 5) (noLoop 42) 25 100 (loopOf Try.prog 42 0) ((mrI1 y0 y1 y2 y3 y4 y5 bs acc off m b).frT 25 [(0,true),(1,true),(2,false)]) = some (.exit 0,g) ∧ g.s.O ∧ Sf.Leads 3 (fun l => Nat.blt l 77) mrτ (mrI1 y0 y1 y2 y3 y4 y5 bs acc off m b) g (mrF y0 y1 y2 y3 y4 y5 bs acc off b) (mrF y0 y1 y2 y3 y4 y5 bs acc off b):=by
 refine ⟨_,mr_e2 y0 y1 y2 y3 y4 y5 bs acc off m b,?_,?_⟩
 ·have m1 : decide ((m : Int) > (0 : Int)) = true:=by simp; omega
  simp only [rr, tt, m1,hb,and_self,true_and]
 ·refine ⟨fun l hl => ?_,⟨⟨rfl,by kernel_rfl,rfl,rfl,rfl,trivial,by kernel_rfl⟩,⟨rfl,by simp only [rr, tt, List.all_cons,List.all_nil,Bool.and_true]; exact rdV_ok rfl rfl,rfl,rfl,rfl,trivial,by simp only [rr, tt, List.map_cons,List.map_nil,rdV_rn]; rfl⟩,
    ⟨rfl,List.all_eq_true.2 (mr_cok hy rfl rfl _ (sl_ok rfl)),rfl,rfl,rfl,trivial,(mr_crn hy rfl rfl _ _ (sl_rn mrτ 76 _)).symm⟩,⟨rfl,flat_all (rels_flat _),rfl,rfl,rfl,trivial,(flat_map (rels_flat _)).symm⟩,trivial⟩,rfl,⟨⟨rfl,Nat.le_refl _⟩,⟨rfl,Nat.le_refl _⟩,trivial⟩,
   trivial,by show 75 ≤ 77; omega,fun l hl => blt_no hl,mrF_ok y0 y1 y2 y3 y4 y5 bs acc off b hy _ rfl rfl rfl rfl rfl rfl rfl rfl,?_⟩
  ·unfold mrτ; have : NG ≤ 66:=by decide
   rw [if_neg (by omega),if_neg (by omega)]
  ·intro x hx hrw
   simp only [rr, tt, mrF,List.mem_cons,List.not_mem_nil,or_false] at hx
   rcases hx with rfl | rfl | rfl | rfl <;> cases hrw
def mr_P (bs : List UInt8) (fa : List Rl) (fo : Nat) (fb : Bool) (x : List Rl × Nat × Nat × Bool) : Prop :=
 (x.1 ++ (contR bs x.2.2.1 x.2.1 x.2.2.2).1 = fa ∧ (contR bs x.2.2.1 x.2.1 x.2.2.2).2 = (fo,fb)) ∧ x.2.1 ≤ 1000000000 ∧ x.1.length + x.2.2.1 ≤ 100000 ∧ (x.1 = [] → 0 < x.2.2.1 ∧ x.2.2.2 = true)
def mr_I (y0 y1 y2 y3 y4 y5 : Value) (bs : List UInt8) : List Rl × Nat × Nat × Bool → Sf
 | ([],off,m,b) => mrI0 y0 y1 y2 y3 y4 y5 bs off m b
 | (a :: l,off,m,b) => mrI1 y0 y1 y2 y3 y4 y5 bs (a :: l) off m b
theorem mr_loop (y0 y1 y2 y3 y4 y5 : Value) (bs : List UInt8) (fa : List Rl) (fo : Nat) (fb : Bool) (hy : YOk y0 y1 y2 y3 y4 y5) (hl : bs.length ≤ 1000000000) :
  ∀ x : { x : List Rl × Nat × Nat × Bool // mr_P bs fa fo fb x },LoopOk Try.prog 25 (loopOf Try.prog 42 0) ((mr_I y0 y1 y2 y3 y4 y5 bs x.1).fr 25) (.exit 0) ((mrF y0 y1 y2 y3 y4 y5 bs fa fo fb).fr 25):=by
 refine loop_okC (L:=100) (noLoop_any _ _ 42) (fun _ h => h) (X:={ x : List Rl × Nat × Nat × Bool // mr_P bs fa fo fb x }) (fun x => mr_I y0 y1 y2 y3 y4 y5 bs x.1) (fun _ => mrF y0 y1 y2 y3 y4 y5 bs fa fo fb) (fun _ => .exit 0) (fun x => x.1.2.2.1) (fun x => ?_) ?_
 ·obtain ⟨⟨acc,off,m,b⟩,hx⟩:=x
  cases acc with
  | nil => exact mr_wf0 y0 y1 y2 y3 y4 y5 bs off m b hy
  | cons a l => exact mr_wf1 y0 y1 y2 y3 y4 y5 bs (a :: l) off m b hy
 ·rintro ⟨⟨acc,off,m,b⟩,⟨h1,h2⟩,ho,ha,h0⟩
  have next : ∀ k,m = k + 1 → b = true → mr_P bs fa fo fb (acc ++ [rRl off bs],rO6 off bs,k,rI off bs):=by
   rintro k rfl rfl
   simp only [] at h1 h2 ha
   have hs:=contR_step bs k off
   rw [hs] at h1 h2
   refine ⟨⟨?_,h2⟩,(rO6_le ho hl).2.2.2.2.2,by simp; omega,fun h => by simp at h⟩
   rw [List.append_assoc]; exact h1
  cases acc with
  | nil =>
   obtain ⟨hm,rfl⟩:=h0 rfl
   obtain ⟨k,rfl⟩ : ∃ k,m = k + 1:=⟨m - 1,by simp only [] at hm; omega⟩
   cases hk : rB4 off bs
   ·obtain ⟨g,e1,e2,e3⟩:=mr_step_n0f y0 y1 y2 y3 y4 y5 bs k off fa fo fb hy ho hl (by simp only [] at ha; exact ha) hk
    exact ⟨_,_,.normal,g,3,_,_,run_ok (L:=100) i_names (baseC_ok (selNcc_ok _ _ _ _)) (noLoop_ok _) 5,e1,e2,.inl ⟨rfl,⟨_,next k rfl rfl⟩,by show k < k + 1; omega,rfl,rfl,e3⟩⟩
   ·obtain ⟨g,e1,e2,e3⟩:=mr_step_n0t y0 y1 y2 y3 y4 y5 bs k off fa fo fb hy ho hl (by simp only [] at ha; exact ha) hk
    exact ⟨_,_,.normal,g,3,_,_,run_ok (L:=100) i_names (baseC_ok (selNcc_ok _ _ _ _)) (noLoop_ok _) 5,e1,e2,.inl ⟨rfl,⟨_,next k rfl rfl⟩,by show k < k + 1; omega,rfl,rfl,e3⟩⟩
  | cons a l =>
   by_cases hm : m = 0
   ·subst hm
    have hc : contR bs 0 off b = ([],off,b):=by cases b <;> rfl
    simp only [rr, tt, hc,List.append_nil] at h1 h2
    simp only [rr, tt, Prod.mk.injEq] at h2
    obtain ⟨rfl,rfl⟩:=h2
    subst h1
    obtain ⟨g,e1,e2,e3⟩:=mr_step_e1 y0 y1 y2 y3 y4 y5 bs (a :: l) off 0 b hy rfl
    exact ⟨_,_,.exit 0,g,3,_,_,run_ok (L:=100) i_names (baseC_ok (selNcc_ok _ _ _ _)) (noLoop_ok _) 5,e1,e2,.inr ⟨by simp,rfl,e3⟩⟩
   ·cases b with
    | false =>
     have hc : contR bs m off false = ([],off,false):=rfl
     simp only [rr, tt, hc,List.append_nil] at h1 h2
     simp only [rr, tt, Prod.mk.injEq] at h2
     obtain ⟨rfl,rfl⟩:=h2
     subst h1
     obtain ⟨g,e1,e2,e3⟩:=mr_step_e2 y0 y1 y2 y3 y4 y5 bs (a :: l) off m false hy (by omega) rfl
     exact ⟨_,_,.exit 0,g,3,_,_,run_ok (L:=100) i_names (baseC_ok (selNcc_ok _ _ _ _)) (noLoop_ok _) 5,e1,e2,.inr ⟨by simp,rfl,e3⟩⟩
    | true =>
     obtain ⟨k,rfl⟩ : ∃ k,m = k + 1:=⟨m - 1,by omega⟩
     cases hk : rB4 off bs
     ·obtain ⟨g,e1,e2,e3⟩:=mr_step_n1f y0 y1 y2 y3 y4 y5 bs (a :: l) k off fa fo fb hy ho hl (by simp only [] at ha; omega) hk
      exact ⟨_,_,.normal,g,3,_,_,run_ok (L:=100) i_names (baseC_ok (selNcc_ok _ _ _ _)) (noLoop_ok _) 5,e1,e2,.inl ⟨rfl,⟨_,next k rfl rfl⟩,by show k < k + 1; omega,rfl,rfl,e3⟩⟩
     ·obtain ⟨g,e1,e2,e3⟩:=mr_step_n1t y0 y1 y2 y3 y4 y5 bs (a :: l) k off fa fo fb hy ho hl (by simp only [] at ha; omega) hk
      exact ⟨_,_,.normal,g,3,_,_,run_ok (L:=100) i_names (baseC_ok (selNcc_ok _ _ _ _)) (noLoop_ok _) 5,e1,e2,.inl ⟨rfl,⟨_,next k rfl rfl⟩,by show k < k + 1; omega,rfl,rfl,e3⟩⟩
def mr_Ent (y0 y1 y2 y3 y4 y5 : Value) (bs : List UInt8) (off m : Nat) (hy : YOk y0 y1 y2 y3 y4 y5) (hl : bs.length ≤ 1000000000) (ho : off ≤ 1000000000) (hm : 0 < m ∧ m ≤ 100000) : Ent Try.prog :=
 entC Try.prog 42 0 25 (mrI0 y0 y1 y2 y3 y4 y5 bs off m true) (.exit 0) (mrF y0 y1 y2 y3 y4 y5 bs (rRa bs m off) (rRo bs m off) (rRb bs m off)) (by kernel_rfl) (by kernel_rfl)
  (mr_loop y0 y1 y2 y3 y4 y5 bs _ _ _ hy hl ⟨([],off,m,true),⟨rfl,rfl⟩,ho,by simp; exact hm.2,fun _ => ⟨hm.1,rfl⟩⟩)
end Go.Proofs.Ytdljpnebpoaeiaa
namespace Go.Proofs.Ytdljpnebpoaeiaa
open Go.RowKit
open Sy
def moσ (l : Nat) : Nat:=if l = 73 then 75 else if l = 74 then 76 else l
def mc_H (y0 y1 y2 y3 y4 y5 : Value) (off : Nat) (b : Bool) (bs : List UInt8) : Sy.Heap:=mnH off b bs ++ [(70,⟨true,none,[y0,y1,y2,.slice none 0 0,y3,y4,y5],none⟩)]
def mc_E (y0 y1 y2 y3 y4 y5 : Value) (fa : List Nat) (fo : Nat) (fb : Bool) (bs : List UInt8) : Sy.Heap:=[(66,⟨true,none,[.bool fb],none⟩),(67,⟨true,none,[rdV 68 fo bs 73],none⟩),(70,⟨true,none,[y0,y1,y2,.slice (some ⟨74,0,none⟩) fa.length (big + 74),y3,y4,y5],none⟩),(74,⟨true,some (74,1),u32s fa,none⟩)]
def mc_C (y0 y1 y2 y3 y4 y5 : Value) (off : Nat) (b : Bool) (bs : List UInt8) (fa : List Nat) (fo : Nat) (fb : Bool) : Con:=⟨mnA mcG 4096,73,mc_H y0 y1 y2 y3 y4 y5 off b bs,[(69,bs.length - off)],undef,75,mc_E y0 y1 y2 y3 y4 y5 fa fo fb bs,[(73,bs.length - fo),(74,fa.length)]⟩
def mr_H (y0 y1 y2 y3 y4 y5 : Value) (off : Nat) (b : Bool) (bs : List UInt8) : Sy.Heap:=mnH off b bs ++ [(70,⟨true,none,[y0,y1,y2,y3,y4,.slice none 0 0,y5],none⟩)]
def mr_E (y0 y1 y2 y3 y4 y5 : Value) (fa : List Rl) (fo : Nat) (fb : Bool) (bs : List UInt8) : Sy.Heap:=[(66,⟨true,none,[.bool fb],none⟩),(67,⟨true,none,[rdV 68 fo bs 73],none⟩),(70,⟨true,none,[y0,y1,y2,y3,y4,.slice (some ⟨74,0,none⟩) fa.length (big + 74),y5],none⟩),(74,⟨true,some (74,6),rels fa,none⟩)]
def mr_C (y0 y1 y2 y3 y4 y5 : Value) (off : Nat) (b : Bool) (bs : List UInt8) (fa : List Rl) (fo : Nat) (fb : Bool) : Con:=⟨mnA mrG 256,73,mr_H y0 y1 y2 y3 y4 y5 off b bs,[(69,bs.length - off)],undef,75,mr_E y0 y1 y2 y3 y4 y5 fa fo fb bs,[(73,bs.length - fo),(74,fa.length)]⟩
def ms_H (y0 y1 y2 y3 y4 y5 : Value) (off : Nat) (b : Bool) (bs : List UInt8) : Sy.Heap:=mnH off b bs ++ [(70,⟨true,none,[y0,y1,y2,y3,y4,y5,.slice none 0 0],none⟩)]
def ms_E (y0 y1 y2 y3 y4 y5 : Value) (fa : List Nat) (fo : Nat) (fb : Bool) (bs : List UInt8) : Sy.Heap:=[(66,⟨true,none,[.bool fb],none⟩),(67,⟨true,none,[rdV 68 fo bs 73],none⟩),(70,⟨true,none,[y0,y1,y2,y3,y4,y5,.slice (some ⟨74,0,none⟩) fa.length (big + 74)],none⟩),(74,⟨true,some (74,1),u32s fa,none⟩)]
def ms_C (y0 y1 y2 y3 y4 y5 : Value) (off : Nat) (b : Bool) (bs : List UInt8) (fa : List Nat) (fo : Nat) (fb : Bool) : Con:=⟨mnA msG 4,73,ms_H y0 y1 y2 y3 y4 y5 off b bs,[(69,bs.length - off)],undef,75,ms_E y0 y1 y2 y3 y4 y5 fa fo fb bs,[(73,bs.length - fo),(74,fa.length)]⟩
theorem mc_o (y0 y1 y2 y3 y4 y5 : Value) (off : Nat) (b : Bool) (bs : List UInt8) (hy : YOk y0 y1 y2 y3 y4 y5) (hl : bs.length ≤ 1000000000) (ho : numO 4 off bs ≤ 1000000000) (hm : 0 < numV 4 off bs ∧ numV 4 off bs ≤ 100000) : evF Try.prog (baseC 3 (selNcc 67 68 [(73,off,b,69)] bs)) (lpEsc [mc_Ent y0 y1 y2 y3 y4 y5 bs (numO 4 off bs) (numV 4 off bs) hy hl ho hm]) 100 10 42 (mnA mcG 4096) ⟨73,mc_H y0 y1 y2 y3 y4 y5 off b bs,[(69,bs.length - off)],0,[(0,true),(1,true),(2,true),(3,true),(4,true)],0,True⟩ = some (undef,{ n:=77,h:=[(66,⟨true,none,[Value.bool (rCb bs (numV 4 off bs) (numO 4 off bs))],none⟩),(67,⟨true,none,[rdV 68 (rCo bs (numV 4 off bs) (numO 4 off bs)) bs 75],none⟩),(70,⟨true,none,[y0,y1,y2,.slice (some ⟨76,0,none⟩) (rCa bs (numV 4 off bs) (numO 4 off bs)).length 9223372036854775884,y3,y4,y5],none⟩),(76,⟨true,some (76,1),u32s (rCa bs (numV 4 off bs) (numO 4 off bs)),none⟩),(64,{ rw:=false,op:=none,cells:=[Value.func (Fn.func 40) { toList:=[] } { toList:=[Value.pointer (some ⟨65,0,none⟩),.pointer (some ⟨66,0,none⟩)] }],it:=none : Sy.Blk }),(65,⟨false,none,[Value.pointer (some ⟨67,0,none⟩)],none⟩),(68,⟨false,some (0,0),u8s bs,none⟩)],lo:=[(75,bs.length - rCo bs (numV 4 off bs) (numO 4 off bs)),(76,(rCa bs (numV 4 off bs) (numO 4 off bs)).length),(73,bs.length - numO 4 off bs),(69,bs.length - off)],esc:=0,T:=[],k:=5,O:=((((((True∧NumOk 4 off bs∧(rr (Value.int .i64 4)∧rr (Value.pointer (some ⟨65,0,none⟩))∧rr (Value.pointer (some ⟨66,0,none⟩))∧True)∧((tt∧tt∧tt∧tt∧tt∧True∧rr [Value.pointer (some ⟨67,0,none⟩)])∧(tt∧tt∧tt∧tt∧tt∧True∧rr [Value.bool b])∧(tt∧(okV (fun l => l.blt 69) 3 (rdV 67 off bs 68) && true) = true∧tt∧tt∧tt∧True∧[rdV 68 off bs 69] = [rnV (lift 69 73 [65,66,67,68,69]) 3 (rdV 67 off bs 68)])∧(tt∧(u8s bs).all (okV (fun l => l.blt 69) 3) = true∧tt∧tt∧tt∧True∧u8s bs = List.map (rnV (lift 69 73 [65,66,67,68,69]) 3) (u8s bs))∧True)∧(tt∧bs.length - off ≤ bs.length - off)∧True)∧(b && numIs 4 off bs) = true)∧(b && numIs 4 off bs) = true)∧(b && numIs 4 off bs) = true)∧(b && numIs 4 off bs) = true)∧(b && numIs 4 off bs) = true)∧(rr (Value.func (Fn.func 43) { toList:=[] } { toList:=[Value.pointer (some ⟨70,0,none⟩),.pointer (some ⟨64,0,none⟩)] })∧rr (Value.pointer (some ⟨66,0,none⟩))∧rr (Value.int .u32 (↑(numV 4 off bs)))∧True)∧((tt∧tt∧True∧rr [Value.func (Fn.func 40) { toList:=[] } { toList:=[Value.pointer (some ⟨65,0,none⟩),.pointer (some ⟨66,0,none⟩)] }])∧(tt∧tt∧True∧rr [Value.pointer (some ⟨67,0,none⟩)])∧(tt∧tt∧True∧[Value.bool true] = [Value.bool (decide ((↑(numV 4 off bs):Int) ≤ (4096:Int)))])∧(tt∧tt∧True∧[rdV 68 (numO 4 off bs) bs 73] = [rnV (lift 69 73 [65,66,67,68,69]) 3 (rdV 67 (numO 4 off bs) bs 69)])∧(tt∧tt∧True∧rr (u8s bs))∧(tt∧tt∧True∧rr [y0,y1,y2,.slice none 0 0,y3,y4,y5])∧True)∧(bs.length - numO 4 off bs ≤ bs.length - numO 4 off bs∧True)∧True : St }):=by kernel_rfl
theorem mr_o (y0 y1 y2 y3 y4 y5 : Value) (off : Nat) (b : Bool) (bs : List UInt8) (hy : YOk y0 y1 y2 y3 y4 y5) (hl : bs.length ≤ 1000000000) (ho : numO 4 off bs ≤ 1000000000) (hm : 0 < numV 4 off bs ∧ numV 4 off bs ≤ 100000) : evF Try.prog (baseC 3 (selNcc 67 68 [(73,off,b,69)] bs)) (lpEsc [mr_Ent y0 y1 y2 y3 y4 y5 bs (numO 4 off bs) (numV 4 off bs) hy hl ho hm]) 100 10 42 (mnA mrG 256) ⟨73,mr_H y0 y1 y2 y3 y4 y5 off b bs,[(69,bs.length - off)],0,[(0,true),(1,true),(2,true),(3,true),(4,true)],0,True⟩ = some (undef,{ n:=77,h:=[(66,⟨true,none,[Value.bool (rRb bs (numV 4 off bs) (numO 4 off bs))],none⟩),(67,⟨true,none,[rdV 68 (rRo bs (numV 4 off bs) (numO 4 off bs)) bs 75],none⟩),(70,⟨true,none,[y0,y1,y2,y3,y4,.slice (some ⟨76,0,none⟩) (rRa bs (numV 4 off bs) (numO 4 off bs)).length 9223372036854775884,y5],none⟩),(76,⟨true,some (76,6),rels (rRa bs (numV 4 off bs) (numO 4 off bs)),none⟩),(64,{ rw:=false,op:=none,cells:=[Value.func (Fn.func 40) { toList:=[] } { toList:=[Value.pointer (some ⟨65,0,none⟩),.pointer (some ⟨66,0,none⟩)] }],it:=none : Sy.Blk }),(65,⟨false,none,[Value.pointer (some ⟨67,0,none⟩)],none⟩),(68,⟨false,some (0,0),u8s bs,none⟩)],lo:=[(75,bs.length - rRo bs (numV 4 off bs) (numO 4 off bs)),(76,(rRa bs (numV 4 off bs) (numO 4 off bs)).length),(73,bs.length - numO 4 off bs),(69,bs.length - off)],esc:=0,T:=[],k:=5,O:=((((((True∧NumOk 4 off bs∧(rr (Value.int .i64 4)∧rr (Value.pointer (some ⟨65,0,none⟩))∧rr (Value.pointer (some ⟨66,0,none⟩))∧True)∧((tt∧tt∧tt∧tt∧tt∧True∧rr [Value.pointer (some ⟨67,0,none⟩)])∧(tt∧tt∧tt∧tt∧tt∧True∧rr [Value.bool b])∧(tt∧(okV (fun l => l.blt 69) 3 (rdV 67 off bs 68) && true) = true∧tt∧tt∧tt∧True∧[rdV 68 off bs 69] = [rnV (lift 69 73 [65,66,67,68,69]) 3 (rdV 67 off bs 68)])∧(tt∧(u8s bs).all (okV (fun l => l.blt 69) 3) = true∧tt∧tt∧tt∧True∧u8s bs = List.map (rnV (lift 69 73 [65,66,67,68,69]) 3) (u8s bs))∧True)∧(tt∧bs.length - off ≤ bs.length - off)∧True)∧(b && numIs 4 off bs) = true)∧(b && numIs 4 off bs) = true)∧(b && numIs 4 off bs) = true)∧(b && numIs 4 off bs) = true)∧(b && numIs 4 off bs) = true)∧(rr (Value.func (Fn.func 45) { toList:=[] } { toList:=[Value.pointer (some ⟨64,0,none⟩),.pointer (some ⟨66,0,none⟩),.pointer (some ⟨70,0,none⟩)] })∧rr (Value.pointer (some ⟨66,0,none⟩))∧rr (Value.int .u32 (↑(numV 4 off bs)))∧True)∧((tt∧tt∧True∧rr [Value.func (Fn.func 40) { toList:=[] } { toList:=[Value.pointer (some ⟨65,0,none⟩),.pointer (some ⟨66,0,none⟩)] }])∧(tt∧tt∧True∧rr [Value.pointer (some ⟨67,0,none⟩)])∧(tt∧tt∧True∧[Value.bool true] = [Value.bool (decide ((↑(numV 4 off bs):Int) ≤ (256:Int)))])∧(tt∧tt∧True∧[rdV 68 (numO 4 off bs) bs 73] = [rnV (lift 69 73 [65,66,67,68,69]) 3 (rdV 67 (numO 4 off bs) bs 69)])∧(tt∧tt∧True∧rr (u8s bs))∧(tt∧tt∧True∧rr [y0,y1,y2,y3,y4,.slice none 0 0,y5])∧True)∧(bs.length - numO 4 off bs ≤ bs.length - numO 4 off bs∧True)∧True : St }):=by kernel_rfl
theorem ms_o (y0 y1 y2 y3 y4 y5 : Value) (off : Nat) (b : Bool) (bs : List UInt8) (hy : YOk y0 y1 y2 y3 y4 y5) (hl : bs.length ≤ 1000000000) (ho : numO 4 off bs ≤ 1000000000) (hm : 0 < numV 4 off bs ∧ numV 4 off bs ≤ 100000) : evF Try.prog (baseC 3 (selNcc 67 68 [(73,off,b,69)] bs)) (lpEsc [ms_Ent y0 y1 y2 y3 y4 y5 bs (numO 4 off bs) (numV 4 off bs) hy hl ho hm]) 100 10 42 (mnA msG 4) ⟨73,ms_H y0 y1 y2 y3 y4 y5 off b bs,[(69,bs.length - off)],0,[(0,true),(1,true),(2,true),(3,true),(4,true)],0,True⟩ = some (undef,{ n:=77,h:=[(66,⟨true,none,[Value.bool (rCb bs (numV 4 off bs) (numO 4 off bs))],none⟩),(67,⟨true,none,[rdV 68 (rCo bs (numV 4 off bs) (numO 4 off bs)) bs 75],none⟩),(70,⟨true,none,[y0,y1,y2,y3,y4,y5,.slice (some ⟨76,0,none⟩) (rCa bs (numV 4 off bs) (numO 4 off bs)).length 9223372036854775884],none⟩),(76,⟨true,some (76,1),u32s (rCa bs (numV 4 off bs) (numO 4 off bs)),none⟩),(64,{ rw:=false,op:=none,cells:=[Value.func (Fn.func 40) { toList:=[] } { toList:=[Value.pointer (some ⟨65,0,none⟩),.pointer (some ⟨66,0,none⟩)] }],it:=none : Sy.Blk }),(65,⟨false,none,[Value.pointer (some ⟨67,0,none⟩)],none⟩),(68,⟨false,some (0,0),u8s bs,none⟩)],lo:=[(75,bs.length - rCo bs (numV 4 off bs) (numO 4 off bs)),(76,(rCa bs (numV 4 off bs) (numO 4 off bs)).length),(73,bs.length - numO 4 off bs),(69,bs.length - off)],esc:=0,T:=[],k:=5,O:=((((((True∧NumOk 4 off bs∧(rr (Value.int .i64 4)∧rr (Value.pointer (some ⟨65,0,none⟩))∧rr (Value.pointer (some ⟨66,0,none⟩))∧True)∧((tt∧tt∧tt∧tt∧tt∧True∧rr [Value.pointer (some ⟨67,0,none⟩)])∧(tt∧tt∧tt∧tt∧tt∧True∧rr [Value.bool b])∧(tt∧(okV (fun l => l.blt 69) 3 (rdV 67 off bs 68) && true) = true∧tt∧tt∧tt∧True∧[rdV 68 off bs 69] = [rnV (lift 69 73 [65,66,67,68,69]) 3 (rdV 67 off bs 68)])∧(tt∧(u8s bs).all (okV (fun l => l.blt 69) 3) = true∧tt∧tt∧tt∧True∧u8s bs = List.map (rnV (lift 69 73 [65,66,67,68,69]) 3) (u8s bs))∧True)∧(tt∧bs.length - off ≤ bs.length - off)∧True)∧(b && numIs 4 off bs) = true)∧(b && numIs 4 off bs) = true)∧(b && numIs 4 off bs) = true)∧(b && numIs 4 off bs) = true)∧(b && numIs 4 off bs) = true)∧(rr (Value.func (Fn.func 46) { toList:=[] } { toList:=[Value.pointer (some ⟨70,0,none⟩),.pointer (some ⟨64,0,none⟩)] })∧rr (Value.pointer (some ⟨66,0,none⟩))∧rr (Value.int .u32 (↑(numV 4 off bs)))∧True)∧((tt∧tt∧True∧rr [Value.func (Fn.func 40) { toList:=[] } { toList:=[Value.pointer (some ⟨65,0,none⟩),.pointer (some ⟨66,0,none⟩)] }])∧(tt∧tt∧True∧rr [Value.pointer (some ⟨67,0,none⟩)])∧(tt∧tt∧True∧[Value.bool true] = [Value.bool (decide ((↑(numV 4 off bs):Int) ≤ (4:Int)))])∧(tt∧tt∧True∧[rdV 68 (numO 4 off bs) bs 73] = [rnV (lift 69 73 [65,66,67,68,69]) 3 (rdV 67 (numO 4 off bs) bs 69)])∧(tt∧tt∧True∧rr (u8s bs))∧(tt∧tt∧True∧rr [y0,y1,y2,y3,y4,y5,.slice none 0 0])∧True)∧(bs.length - numO 4 off bs ≤ bs.length - numO 4 off bs∧True)∧True : St }):=by kernel_rfl
theorem mc_flat (y0 y1 y2 y3 y4 y5 : Value) (off : Nat) (b : Bool) (bs : List UInt8) (fa : List Nat) (fo : Nat) (fb : Bool) : FlatC (mc_C y0 y1 y2 y3 y4 y5 off b bs fa fo fb):=⟨fun x hx hne => by
 simp only [rr, tt, mc_C,mc_E,List.mem_cons,List.not_mem_nil,or_false] at hx
 rcases hx with rfl | rfl | rfl | rfl
 ·exact absurd rfl hne
 ·exact absurd rfl hne
 ·exact absurd rfl hne
 ·exact u32s_flat _⟩
theorem mc_con (y0 y1 y2 y3 y4 y5 : Value) (off : Nat) (b : Bool) (bs : List UInt8) (hy : YOk y0 y1 y2 y3 y4 y5) (ho : off ≤ 1000000000) (hl : bs.length ≤ 1000000000) (h0 : 0 < numV 4 off bs) (h : manyW 4096 off b bs = true) : ConOk Try.prog 42 3 (mc_C y0 y1 y2 y3 y4 y5 off b bs (rCa bs (numV 4 off bs) (numO 4 off bs)) (rCo bs (numV 4 off bs) (numO 4 off bs)) (rCb bs (numV 4 off bs) (numO 4 off bs))):=by
 have h':=h
 unfold manyW at h'
 rw [Bool.and_eq_true] at h'
 obtain ⟨hb,hd⟩:=h'
 have hle : numV 4 off bs ≤ 4096:=by simpa using hd
 have hd' : decide ((numV 4 off bs : Int) ≤ (4096 : Int)) = true:=by simp; omega
 have ho' : numO 4 off bs ≤ 1000000000:=numO_le ho hl (by omega)
 have l1 : lift 69 73 [65,66,67,68,69] 67 = 68:=rfl
 have l2 : lift 69 73 [65,66,67,68,69] 69 = 73:=rfl
 have l3 : lift 69 73 [65,66,67,68,69] 68 = 69:=rfl
 have e2 : okV (fun l => Nat.blt l 69) 3 (rdV 67 off bs 68) = true:=rdV_ok rfl rfl
 have f5 : ∀ xs p d,(u8s xs).all (okV p d) = true:=fun xs _ _ => flat_all (u8s_flat xs)
 have f6 : ∀ xs σ d,(u8s xs).map (rnV σ d) = u8s xs:=fun xs _ _ => flat_map (u8s_flat xs)
 have hn : NumOk 4 off bs:=⟨.inr (.inr rfl),ho,hl⟩
 have hh:=mc_o y0 y1 y2 y3 y4 y5 off b bs hy hl ho' ⟨h0,by omega⟩
 simp only [rr, tt, rdV_rn,l1,l2,l3,hb,hd'] at hh
 generalize (rCa bs (numV 4 off bs) (numO 4 off bs)) = ra at hh ⊢
 generalize (rCo bs (numV 4 off bs) (numO 4 off bs)) = ro at hh ⊢
 generalize (rCb bs (numV 4 off bs) (numO 4 off bs)) = rb at hh ⊢
 refine conOk_run (run_ok (L:=100) i_names (baseC_ok (d:=3) (selNcc_ok 67 68 [(73,off,b,69)] bs)) (lpEsc_ok _) 10) ?_ hh ?_ (p:=fun l => Nat.blt l 75) (σ:=moσ) ?_
 ·refine ⟨by show NG ≤ 73; decide,by show 73 ≤ 75; omega,⟨⟨rfl,rfl,fun v hv => ?_⟩,⟨rfl,rfl,fun v hv => ?_⟩,⟨rfl,rfl,fun v hv => ?_⟩,⟨rfl,rfl,fun v hv => ?_⟩,⟨rfl,rfl,flat_bnd (u8s_flat bs)⟩,⟨rfl,rfl,fun v hv => okV_bnd 3 v (mc_cok hy rfl rfl _ rfl v hv)⟩,trivial⟩,rfl,rfl,rfl,by kernel_rfl,rfl,fun x hx v hv => ?_⟩
  ·obtain rfl:=List.mem_singleton.1 hv; exact okV_bnd 3 _ (by kernel_rfl)
  ·obtain rfl:=List.mem_singleton.1 hv; exact okV_bnd 3 _ (by kernel_rfl)
  ·obtain rfl:=List.mem_singleton.1 hv; exact bnd_flat0 _ rfl
  ·obtain rfl:=List.mem_singleton.1 hv; exact rdV_bnd rfl rfl
  ·simp only [rr, tt, mc_C,mc_E,List.mem_cons,List.not_mem_nil,or_false] at hx
   rcases hx with rfl | rfl | rfl | rfl
   ·obtain rfl:=List.mem_singleton.1 hv; rfl
   ·obtain rfl:=List.mem_singleton.1 hv; exact rdV_ok rfl rfl
   ·exact mc_cok hy rfl rfl _ (sl_ok rfl) v hv
   ·exact okV_flat0 (u32s_flat _ v hv) 3
 ·simp only [rr, tt, e2,f5,f6,l1,l3,hn,hb,hd',Bool.and_self,and_true,true_and,and_self,Nat.le_refl]
  skip
 ·refine ⟨fun l hl => ?_,⟨⟨rfl,rfl,rfl,rfl,rfl,trivial,rfl⟩,⟨rfl,by simp only [rr, tt, List.all_cons,List.all_nil,Bool.and_true]; exact rdV_ok rfl rfl,rfl,rfl,rfl,trivial,by simp only [rr, tt, List.map_cons,List.map_nil,rdV_rn]; rfl⟩,⟨rfl,List.all_eq_true.2 (mc_cok hy rfl rfl _ (sl_ok rfl)),rfl,rfl,rfl,trivial,(mc_crn hy rfl rfl _ _ (sl_rn moσ 74 _)).symm⟩,⟨rfl,flat_all (u32s_flat _),rfl,rfl,rfl,trivial,(flat_map (u32s_flat _)).symm⟩,trivial⟩,rfl,
   ⟨⟨rfl,Nat.le_refl _⟩,⟨rfl,Nat.le_refl _⟩,trivial⟩,⟨rfl,rfl⟩,rfl,⟨⟨rfl,rfl,fun v hv => ?_⟩,⟨rfl,rfl,fun v hv => ?_⟩,⟨rfl,rfl,fun v hv => okV_bnd 3 v (mc_cok hy rfl rfl _ (sl_ok rfl) v hv)⟩,⟨rfl,rfl,flat_bnd (u32s_flat _)⟩,trivial⟩,rfl,bnd_undef _,fun x hx hrw => ?_⟩
  ·unfold moσ; have : NG ≤ 66:=by decide
   rw [if_neg (by omega),if_neg (by omega)]
  ·obtain rfl:=List.mem_singleton.1 hv; exact bnd_flat0 _ rfl
  ·obtain rfl:=List.mem_singleton.1 hv; exact rdV_bnd rfl rfl
  ·simp only [rr, tt, mc_C,mc_E,List.mem_cons,List.not_mem_nil,or_false] at hx
   rcases hx with rfl | rfl | rfl | rfl <;> cases hrw
theorem mr_flat (y0 y1 y2 y3 y4 y5 : Value) (off : Nat) (b : Bool) (bs : List UInt8) (fa : List Rl) (fo : Nat) (fb : Bool) : FlatC (mr_C y0 y1 y2 y3 y4 y5 off b bs fa fo fb):=⟨fun x hx hne => by
 simp only [rr, tt, mr_C,mr_E,List.mem_cons,List.not_mem_nil,or_false] at hx
 rcases hx with rfl | rfl | rfl | rfl
 ·exact absurd rfl hne
 ·exact absurd rfl hne
 ·exact absurd rfl hne
 ·exact rels_flat _⟩
theorem mr_con (y0 y1 y2 y3 y4 y5 : Value) (off : Nat) (b : Bool) (bs : List UInt8) (hy : YOk y0 y1 y2 y3 y4 y5) (ho : off ≤ 1000000000) (hl : bs.length ≤ 1000000000) (h0 : 0 < numV 4 off bs) (h : manyW 256 off b bs = true) : ConOk Try.prog 42 3 (mr_C y0 y1 y2 y3 y4 y5 off b bs (rRa bs (numV 4 off bs) (numO 4 off bs)) (rRo bs (numV 4 off bs) (numO 4 off bs)) (rRb bs (numV 4 off bs) (numO 4 off bs))):=by
 have h':=h
 unfold manyW at h'
 rw [Bool.and_eq_true] at h'
 obtain ⟨hb,hd⟩:=h'
 have hle : numV 4 off bs ≤ 256:=by simpa using hd
 have hd' : decide ((numV 4 off bs : Int) ≤ (256 : Int)) = true:=by simp; omega
 have ho' : numO 4 off bs ≤ 1000000000:=numO_le ho hl (by omega)
 have l1 : lift 69 73 [65,66,67,68,69] 67 = 68:=rfl
 have l2 : lift 69 73 [65,66,67,68,69] 69 = 73:=rfl
 have l3 : lift 69 73 [65,66,67,68,69] 68 = 69:=rfl
 have e2 : okV (fun l => Nat.blt l 69) 3 (rdV 67 off bs 68) = true:=rdV_ok rfl rfl
 have f5 : ∀ xs p d,(u8s xs).all (okV p d) = true:=fun xs _ _ => flat_all (u8s_flat xs)
 have f6 : ∀ xs σ d,(u8s xs).map (rnV σ d) = u8s xs:=fun xs _ _ => flat_map (u8s_flat xs)
 have hn : NumOk 4 off bs:=⟨.inr (.inr rfl),ho,hl⟩
 have hh:=mr_o y0 y1 y2 y3 y4 y5 off b bs hy hl ho' ⟨h0,by omega⟩
 simp only [rr, tt, rdV_rn,l1,l2,l3,hb,hd'] at hh
 generalize (rRa bs (numV 4 off bs) (numO 4 off bs)) = ra at hh ⊢
 generalize (rRo bs (numV 4 off bs) (numO 4 off bs)) = ro at hh ⊢
 generalize (rRb bs (numV 4 off bs) (numO 4 off bs)) = rb at hh ⊢
 refine conOk_run (run_ok (L:=100) i_names (baseC_ok (d:=3) (selNcc_ok 67 68 [(73,off,b,69)] bs)) (lpEsc_ok _) 10) ?_ hh ?_ (p:=fun l => Nat.blt l 75) (σ:=moσ) ?_
 ·refine ⟨by show NG ≤ 73; decide,by show 73 ≤ 75; omega,⟨⟨rfl,rfl,fun v hv => ?_⟩,⟨rfl,rfl,fun v hv => ?_⟩,⟨rfl,rfl,fun v hv => ?_⟩,⟨rfl,rfl,fun v hv => ?_⟩,⟨rfl,rfl,flat_bnd (u8s_flat bs)⟩,⟨rfl,rfl,fun v hv => okV_bnd 3 v (mr_cok hy rfl rfl _ rfl v hv)⟩,trivial⟩,rfl,rfl,rfl,by kernel_rfl,rfl,fun x hx v hv => ?_⟩
  ·obtain rfl:=List.mem_singleton.1 hv; exact okV_bnd 3 _ (by kernel_rfl)
  ·obtain rfl:=List.mem_singleton.1 hv; exact okV_bnd 3 _ (by kernel_rfl)
  ·obtain rfl:=List.mem_singleton.1 hv; exact bnd_flat0 _ rfl
  ·obtain rfl:=List.mem_singleton.1 hv; exact rdV_bnd rfl rfl
  ·simp only [rr, tt, mr_C,mr_E,List.mem_cons,List.not_mem_nil,or_false] at hx
   rcases hx with rfl | rfl | rfl | rfl
   ·obtain rfl:=List.mem_singleton.1 hv; rfl
   ·obtain rfl:=List.mem_singleton.1 hv; exact rdV_ok rfl rfl
   ·exact mr_cok hy rfl rfl _ (sl_ok rfl) v hv
   ·exact okV_flat0 (rels_flat _ v hv) 3
 ·simp only [rr, tt, e2,f5,f6,l1,l3,hn,hb,hd',Bool.and_self,and_true,true_and,and_self,Nat.le_refl]
  skip
 ·refine ⟨fun l hl => ?_,⟨⟨rfl,rfl,rfl,rfl,rfl,trivial,rfl⟩,⟨rfl,by simp only [rr, tt, List.all_cons,List.all_nil,Bool.and_true]; exact rdV_ok rfl rfl,rfl,rfl,rfl,trivial,by simp only [rr, tt, List.map_cons,List.map_nil,rdV_rn]; rfl⟩,⟨rfl,List.all_eq_true.2 (mr_cok hy rfl rfl _ (sl_ok rfl)),rfl,rfl,rfl,trivial,(mr_crn hy rfl rfl _ _ (sl_rn moσ 74 _)).symm⟩,⟨rfl,flat_all (rels_flat _),rfl,rfl,rfl,trivial,(flat_map (rels_flat _)).symm⟩,trivial⟩,rfl,
   ⟨⟨rfl,Nat.le_refl _⟩,⟨rfl,Nat.le_refl _⟩,trivial⟩,⟨rfl,rfl⟩,rfl,⟨⟨rfl,rfl,fun v hv => ?_⟩,⟨rfl,rfl,fun v hv => ?_⟩,⟨rfl,rfl,fun v hv => okV_bnd 3 v (mr_cok hy rfl rfl _ (sl_ok rfl) v hv)⟩,⟨rfl,rfl,flat_bnd (rels_flat _)⟩,trivial⟩,rfl,bnd_undef _,fun x hx hrw => ?_⟩
  ·unfold moσ; have : NG ≤ 66:=by decide
   rw [if_neg (by omega),if_neg (by omega)]
  ·obtain rfl:=List.mem_singleton.1 hv; exact bnd_flat0 _ rfl
  ·obtain rfl:=List.mem_singleton.1 hv; exact rdV_bnd rfl rfl
  ·simp only [rr, tt, mr_C,mr_E,List.mem_cons,List.not_mem_nil,or_false] at hx
   rcases hx with rfl | rfl | rfl | rfl <;> cases hrw
theorem ms_flat (y0 y1 y2 y3 y4 y5 : Value) (off : Nat) (b : Bool) (bs : List UInt8) (fa : List Nat) (fo : Nat) (fb : Bool) : FlatC (ms_C y0 y1 y2 y3 y4 y5 off b bs fa fo fb):=⟨fun x hx hne => by
 simp only [rr, tt, ms_C,ms_E,List.mem_cons,List.not_mem_nil,or_false] at hx
 rcases hx with rfl | rfl | rfl | rfl
 ·exact absurd rfl hne
 ·exact absurd rfl hne
 ·exact absurd rfl hne
 ·exact u32s_flat _⟩
theorem ms_con (y0 y1 y2 y3 y4 y5 : Value) (off : Nat) (b : Bool) (bs : List UInt8) (hy : YOk y0 y1 y2 y3 y4 y5) (ho : off ≤ 1000000000) (hl : bs.length ≤ 1000000000) (h0 : 0 < numV 4 off bs) (h : manyW 4 off b bs = true) : ConOk Try.prog 42 3 (ms_C y0 y1 y2 y3 y4 y5 off b bs (rCa bs (numV 4 off bs) (numO 4 off bs)) (rCo bs (numV 4 off bs) (numO 4 off bs)) (rCb bs (numV 4 off bs) (numO 4 off bs))):=by
 have h':=h
 unfold manyW at h'
 rw [Bool.and_eq_true] at h'
 obtain ⟨hb,hd⟩:=h'
 have hle : numV 4 off bs ≤ 4:=by simpa using hd
 have hd' : decide ((numV 4 off bs : Int) ≤ (4 : Int)) = true:=by simp; omega
 have ho' : numO 4 off bs ≤ 1000000000:=numO_le ho hl (by omega)
 have l1 : lift 69 73 [65,66,67,68,69] 67 = 68:=rfl
 have l2 : lift 69 73 [65,66,67,68,69] 69 = 73:=rfl
 have l3 : lift 69 73 [65,66,67,68,69] 68 = 69:=rfl
 have e2 : okV (fun l => Nat.blt l 69) 3 (rdV 67 off bs 68) = true:=rdV_ok rfl rfl
 have f5 : ∀ xs p d,(u8s xs).all (okV p d) = true:=fun xs _ _ => flat_all (u8s_flat xs)
 have f6 : ∀ xs σ d,(u8s xs).map (rnV σ d) = u8s xs:=fun xs _ _ => flat_map (u8s_flat xs)
 have hn : NumOk 4 off bs:=⟨.inr (.inr rfl),ho,hl⟩
 have hh:=ms_o y0 y1 y2 y3 y4 y5 off b bs hy hl ho' ⟨h0,by omega⟩
 simp only [rr, tt, rdV_rn,l1,l2,l3,hb,hd'] at hh
 generalize (rCa bs (numV 4 off bs) (numO 4 off bs)) = ra at hh ⊢
 generalize (rCo bs (numV 4 off bs) (numO 4 off bs)) = ro at hh ⊢
 generalize (rCb bs (numV 4 off bs) (numO 4 off bs)) = rb at hh ⊢
 refine conOk_run (run_ok (L:=100) i_names (baseC_ok (d:=3) (selNcc_ok 67 68 [(73,off,b,69)] bs)) (lpEsc_ok _) 10) ?_ hh ?_ (p:=fun l => Nat.blt l 75) (σ:=moσ) ?_
 ·refine ⟨by show NG ≤ 73; decide,by show 73 ≤ 75; omega,⟨⟨rfl,rfl,fun v hv => ?_⟩,⟨rfl,rfl,fun v hv => ?_⟩,⟨rfl,rfl,fun v hv => ?_⟩,⟨rfl,rfl,fun v hv => ?_⟩,⟨rfl,rfl,flat_bnd (u8s_flat bs)⟩,⟨rfl,rfl,fun v hv => okV_bnd 3 v (ms_cok hy rfl rfl _ rfl v hv)⟩,trivial⟩,rfl,rfl,rfl,by kernel_rfl,rfl,fun x hx v hv => ?_⟩
  ·obtain rfl:=List.mem_singleton.1 hv; exact okV_bnd 3 _ (by kernel_rfl)
  ·obtain rfl:=List.mem_singleton.1 hv; exact okV_bnd 3 _ (by kernel_rfl)
  ·obtain rfl:=List.mem_singleton.1 hv; exact bnd_flat0 _ rfl
  ·obtain rfl:=List.mem_singleton.1 hv; exact rdV_bnd rfl rfl
  ·simp only [rr, tt, ms_C,ms_E,List.mem_cons,List.not_mem_nil,or_false] at hx
   rcases hx with rfl | rfl | rfl | rfl
   ·obtain rfl:=List.mem_singleton.1 hv; rfl
   ·obtain rfl:=List.mem_singleton.1 hv; exact rdV_ok rfl rfl
   ·exact ms_cok hy rfl rfl _ (sl_ok rfl) v hv
   ·exact okV_flat0 (u32s_flat _ v hv) 3
 ·simp only [rr, tt, e2,f5,f6,l1,l3,hn,hb,hd',Bool.and_self,and_true,true_and,and_self,Nat.le_refl]
  skip
 ·refine ⟨fun l hl => ?_,⟨⟨rfl,rfl,rfl,rfl,rfl,trivial,rfl⟩,⟨rfl,by simp only [rr, tt, List.all_cons,List.all_nil,Bool.and_true]; exact rdV_ok rfl rfl,rfl,rfl,rfl,trivial,by simp only [rr, tt, List.map_cons,List.map_nil,rdV_rn]; rfl⟩,⟨rfl,List.all_eq_true.2 (ms_cok hy rfl rfl _ (sl_ok rfl)),rfl,rfl,rfl,trivial,(ms_crn hy rfl rfl _ _ (sl_rn moσ 74 _)).symm⟩,⟨rfl,flat_all (u32s_flat _),rfl,rfl,rfl,trivial,(flat_map (u32s_flat _)).symm⟩,trivial⟩,rfl,
   ⟨⟨rfl,Nat.le_refl _⟩,⟨rfl,Nat.le_refl _⟩,trivial⟩,⟨rfl,rfl⟩,rfl,⟨⟨rfl,rfl,fun v hv => ?_⟩,⟨rfl,rfl,fun v hv => ?_⟩,⟨rfl,rfl,fun v hv => okV_bnd 3 v (ms_cok hy rfl rfl _ (sl_ok rfl) v hv)⟩,⟨rfl,rfl,flat_bnd (u32s_flat _)⟩,trivial⟩,rfl,bnd_undef _,fun x hx hrw => ?_⟩
  ·unfold moσ; have : NG ≤ 66:=by decide
   rw [if_neg (by omega),if_neg (by omega)]
  ·obtain rfl:=List.mem_singleton.1 hv; exact bnd_flat0 _ rfl
  ·obtain rfl:=List.mem_singleton.1 hv; exact rdV_bnd rfl rfl
  ·simp only [rr, tt, ms_C,ms_E,List.mem_cons,List.not_mem_nil,or_false] at hx
   rcases hx with rfl | rfl | rfl | rfl <;> cases hrw
end Go.Proofs.Ytdljpnebpoaeiaa
namespace Go.Proofs.Ytdljpnebpoaeiaa
open Go.RowKit
open Sy
def slO (g n : Nat) : Value:=if n = 0 then .slice none 0 0 else .slice (some ⟨g,0,none⟩) n (big + g)
theorem slO_rn (σ : Nat → Nat) (d g n : Nat) : rnV σ d (slO g n) = slO (σ g) n:=by
 unfold slO
 split
 ·cases d <;> simp only [rr, tt, rnV,Option.map_none] <;> rfl
 ·cases d <;> simp only [rr, tt, rnV,Option.map_some,rnA,Option.map_none,rnC_big]
theorem slO_ok {p : Nat → Bool} {d g n : Nat} (h : p g = true) : okV p d (slO g n) = true:=by
 unfold slO
 split
 ·cases d <;> rfl
 ·cases d <;> simp [okV,bndA,h,Nat.add_sub_cancel_left]
theorem slO_pos {g n : Nat} (h : n ≠ 0) : slO g n = .slice (some ⟨g,0,none⟩) n (big + g):=if_neg h
theorem rCa_ne (bs : List UInt8) (m off : Nat) (h : 0 < m) : (rCa bs m off).length ≠ 0:=by
 cases m with
 | zero => omega
 | succ m =>
  unfold rCa runC
  cases numIs 4 off bs <;> simp
theorem rRa_ne (bs : List UInt8) (m off : Nat) (h : 0 < m) : (rRa bs m off).length ≠ 0:=by
 cases m with
 | zero => omega
 | succ m =>
  unfold rRa runR
  cases rI off bs <;> simp
def noneB (most off : Nat) (b : Bool) (bs : List UInt8) : Bool:=Nat.beq (numV 4 off bs) 0 || !manyW most off b bs
theorem noneB_or {most off : Nat} {b : Bool} {bs : List UInt8} (h : noneB most off b bs = true) : numV 4 off bs = 0 ∨ manyW most off b bs = false:=by
 unfold noneB at h
 rw [Bool.or_eq_true] at h
 exact h.imp Nat.eq_of_beq_eq_true (by simp)
theorem noneB_no {most off : Nat} {b : Bool} {bs : List UInt8} (h : noneB most off b bs = false) : 0 < numV 4 off bs ∧ manyW most off b bs = true:=by
 unfold noneB at h
 rw [Bool.or_eq_false_iff] at h
 refine ⟨?_,by simpa using h.2⟩
 rcases Nat.eq_zero_or_pos (numV 4 off bs) with e | e
 ·rw [e] at h; cases h.1
 ·exact e
def anCa (most off : Nat) (b : Bool) (bs : List UInt8) : List Nat:=bif noneB most off b bs then [] else rCa bs (numV 4 off bs) (numO 4 off bs)
def anCo (most off : Nat) (b : Bool) (bs : List UInt8) : Nat:=bif noneB most off b bs then numO 4 off bs else rCo bs (numV 4 off bs) (numO 4 off bs)
def anCb (most off : Nat) (b : Bool) (bs : List UInt8) : Bool:=bif noneB most off b bs then manyW most off b bs else rCb bs (numV 4 off bs) (numO 4 off bs)
def anRa (most off : Nat) (b : Bool) (bs : List UInt8) : List Rl:=bif noneB most off b bs then [] else rRa bs (numV 4 off bs) (numO 4 off bs)
def anRo (most off : Nat) (b : Bool) (bs : List UInt8) : Nat:=bif noneB most off b bs then numO 4 off bs else rRo bs (numV 4 off bs) (numO 4 off bs)
def anRb (most off : Nat) (b : Bool) (bs : List UInt8) : Bool:=bif noneB most off b bs then manyW most off b bs else rRb bs (numV 4 off bs) (numO 4 off bs)
def anE (fb : Bool) (fo : Nat) (cs : List Value) (bs : List UInt8) : Sy.Heap:=[(66,⟨true,none,[.bool fb],none⟩),(67,⟨true,none,[rdV 68 fo bs 73],none⟩),(70,⟨true,none,cs,none⟩)]
theorem anE_ok (fb : Bool) (fo : Nat) (cs : List Value) (bs : List UInt8) (hc : ∀ v ∈ cs,okV (fun l => Nat.blt l 75) 3 v = true) : ∀ x ∈ anE fb fo cs bs,∀ v ∈ x.2.cells,okV (fun l => Nat.blt l 75) 3 v = true:=by
 intro x hx v hv
 simp only [rr, tt, anE,List.mem_cons,List.not_mem_nil,or_false] at hx
 rcases hx with rfl | rfl | rfl
 ·obtain rfl:=List.mem_singleton.1 hv; rfl
 ·obtain rfl:=List.mem_singleton.1 hv; exact rdV_ok rfl rfl
 ·exact hc v hv
theorem mc_n (y0 y1 y2 y3 y4 y5 : Value) (off : Nat) (b : Bool) (bs : List UInt8) : evF Try.prog (baseC 3 (selSteps [(73,42,mnC mcG 4096 off b bs,[64,65,66,67,68,69,70,71,72])])) noLoop 10 10 42 (mnA mcG 4096) ⟨73,mc_H y0 y1 y2 y3 y4 y5 off b bs,[(69,bs.length - off)],0,[],0,True⟩ = some (undef,{ n:=74,h:=[(66,⟨true,none,[Value.bool (manyW 4096 off b bs)],none⟩),(67,⟨true,none,[rnV (lift 73 73 [64,65,66,67,68,69,70,71,72]) 3 (rdV 68 (numO 4 off bs) bs 73)],none⟩),(64,{ rw:=false,op:=none,cells:=[Value.func (Fn.func 40) { toList:=[] } { toList:=[Value.pointer (some ⟨65,0,none⟩),.pointer (some ⟨66,0,none⟩)] }],it:=none : Sy.Blk }),(65,⟨false,none,[Value.pointer (some ⟨67,0,none⟩)],none⟩),(68,⟨false,some (0,0),u8s bs,none⟩),(70,⟨true,none,[y0,y1,y2,.slice none 0 0,y3,y4,y5],none⟩)],lo:=[(73,bs.length - numO 4 off bs),(69,bs.length - off)],esc:=0,T:=[],k:=0,O:=True∧True∧(rr (Value.int .i64 4096)∧rr (Value.func (Fn.func 43) { toList:=[] } { toList:=[Value.pointer (some ⟨70,0,none⟩),.pointer (some ⟨64,0,none⟩)] })∧rr (Value.pointer (some ⟨64,0,none⟩))∧rr (Value.pointer (some ⟨66,0,none⟩))∧True)∧((tt∧tt∧tt∧tt∧tt∧True∧rr [Value.func (Fn.func 40) { toList:=[] } { toList:=[Value.pointer (some ⟨65,0,none⟩),.pointer (some ⟨66,0,none⟩)] }])∧(tt∧tt∧tt∧tt∧tt∧True∧rr [Value.pointer (some ⟨67,0,none⟩)])∧(tt∧tt∧tt∧tt∧tt∧True∧rr [Value.bool b])∧(tt∧(okV (fun l => l.blt 73) 3 (rdV 68 off bs 69) && true) = true∧tt∧tt∧tt∧True∧[rdV 68 off bs 69] = [rnV (lift 73 73 [64,65,66,67,68,69,70,71,72]) 3 (rdV 68 off bs 69)])∧(tt∧(u8s bs).all (okV (fun l => l.blt 73) 3) = true∧tt∧tt∧tt∧True∧u8s bs = List.map (rnV (lift 73 73 [64,65,66,67,68,69,70,71,72]) 3) (u8s bs))∧True)∧(tt∧bs.length - off ≤ bs.length - off)∧True : St }):=by kernel_rfl
theorem mr_n (y0 y1 y2 y3 y4 y5 : Value) (off : Nat) (b : Bool) (bs : List UInt8) : evF Try.prog (baseC 3 (selSteps [(73,42,mnC mrG 256 off b bs,[64,65,66,67,68,69,70,71,72])])) noLoop 10 10 42 (mnA mrG 256) ⟨73,mr_H y0 y1 y2 y3 y4 y5 off b bs,[(69,bs.length - off)],0,[],0,True⟩ = some (undef,{ n:=74,h:=[(66,⟨true,none,[Value.bool (manyW 256 off b bs)],none⟩),(67,⟨true,none,[rnV (lift 73 73 [64,65,66,67,68,69,70,71,72]) 3 (rdV 68 (numO 4 off bs) bs 73)],none⟩),(64,{ rw:=false,op:=none,cells:=[Value.func (Fn.func 40) { toList:=[] } { toList:=[Value.pointer (some ⟨65,0,none⟩),.pointer (some ⟨66,0,none⟩)] }],it:=none : Sy.Blk }),(65,⟨false,none,[Value.pointer (some ⟨67,0,none⟩)],none⟩),(68,⟨false,some (0,0),u8s bs,none⟩),(70,⟨true,none,[y0,y1,y2,y3,y4,.slice none 0 0,y5],none⟩)],lo:=[(73,bs.length - numO 4 off bs),(69,bs.length - off)],esc:=0,T:=[],k:=0,O:=True∧True∧(rr (Value.int .i64 256)∧rr (Value.func (Fn.func 45) { toList:=[] } { toList:=[Value.pointer (some ⟨64,0,none⟩),.pointer (some ⟨66,0,none⟩),.pointer (some ⟨70,0,none⟩)] })∧rr (Value.pointer (some ⟨64,0,none⟩))∧rr (Value.pointer (some ⟨66,0,none⟩))∧True)∧((tt∧tt∧tt∧tt∧tt∧True∧rr [Value.func (Fn.func 40) { toList:=[] } { toList:=[Value.pointer (some ⟨65,0,none⟩),.pointer (some ⟨66,0,none⟩)] }])∧(tt∧tt∧tt∧tt∧tt∧True∧rr [Value.pointer (some ⟨67,0,none⟩)])∧(tt∧tt∧tt∧tt∧tt∧True∧rr [Value.bool b])∧(tt∧(okV (fun l => l.blt 73) 3 (rdV 68 off bs 69) && true) = true∧tt∧tt∧tt∧True∧[rdV 68 off bs 69] = [rnV (lift 73 73 [64,65,66,67,68,69,70,71,72]) 3 (rdV 68 off bs 69)])∧(tt∧(u8s bs).all (okV (fun l => l.blt 73) 3) = true∧tt∧tt∧tt∧True∧u8s bs = List.map (rnV (lift 73 73 [64,65,66,67,68,69,70,71,72]) 3) (u8s bs))∧True)∧(tt∧bs.length - off ≤ bs.length - off)∧True : St }):=by kernel_rfl
theorem ms_n (y0 y1 y2 y3 y4 y5 : Value) (off : Nat) (b : Bool) (bs : List UInt8) : evF Try.prog (baseC 3 (selSteps [(73,42,mnC msG 4 off b bs,[64,65,66,67,68,69,70,71,72])])) noLoop 10 10 42 (mnA msG 4) ⟨73,ms_H y0 y1 y2 y3 y4 y5 off b bs,[(69,bs.length - off)],0,[],0,True⟩ = some (undef,{ n:=74,h:=[(66,⟨true,none,[Value.bool (manyW 4 off b bs)],none⟩),(67,⟨true,none,[rnV (lift 73 73 [64,65,66,67,68,69,70,71,72]) 3 (rdV 68 (numO 4 off bs) bs 73)],none⟩),(64,{ rw:=false,op:=none,cells:=[Value.func (Fn.func 40) { toList:=[] } { toList:=[Value.pointer (some ⟨65,0,none⟩),.pointer (some ⟨66,0,none⟩)] }],it:=none : Sy.Blk }),(65,⟨false,none,[Value.pointer (some ⟨67,0,none⟩)],none⟩),(68,⟨false,some (0,0),u8s bs,none⟩),(70,⟨true,none,[y0,y1,y2,y3,y4,y5,.slice none 0 0],none⟩)],lo:=[(73,bs.length - numO 4 off bs),(69,bs.length - off)],esc:=0,T:=[],k:=0,O:=True∧True∧(rr (Value.int .i64 4)∧rr (Value.func (Fn.func 46) { toList:=[] } { toList:=[Value.pointer (some ⟨70,0,none⟩),.pointer (some ⟨64,0,none⟩)] })∧rr (Value.pointer (some ⟨64,0,none⟩))∧rr (Value.pointer (some ⟨66,0,none⟩))∧True)∧((tt∧tt∧tt∧tt∧tt∧True∧rr [Value.func (Fn.func 40) { toList:=[] } { toList:=[Value.pointer (some ⟨65,0,none⟩),.pointer (some ⟨66,0,none⟩)] }])∧(tt∧tt∧tt∧tt∧tt∧True∧rr [Value.pointer (some ⟨67,0,none⟩)])∧(tt∧tt∧tt∧tt∧tt∧True∧rr [Value.bool b])∧(tt∧(okV (fun l => l.blt 73) 3 (rdV 68 off bs 69) && true) = true∧tt∧tt∧tt∧True∧[rdV 68 off bs 69] = [rnV (lift 73 73 [64,65,66,67,68,69,70,71,72]) 3 (rdV 68 off bs 69)])∧(tt∧(u8s bs).all (okV (fun l => l.blt 73) 3) = true∧tt∧tt∧tt∧True∧u8s bs = List.map (rnV (lift 73 73 [64,65,66,67,68,69,70,71,72]) 3) (u8s bs))∧True)∧(tt∧bs.length - off ≤ bs.length - off)∧True : St }):=by kernel_rfl
def mc_A (y0 y1 y2 y3 y4 y5 : Value) (off : Nat) (b : Bool) (bs : List UInt8) (m fo : Nat) (fb : Bool) : Con:=⟨mnA mcG 4096,73,mc_H y0 y1 y2 y3 y4 y5 off b bs,[(69,bs.length - off)],undef,75,anE fb fo [y0,y1,y2,slO 74 m,y3,y4,y5] bs,[(73,bs.length - fo)]⟩
theorem mc_awf (y0 y1 y2 y3 y4 y5 : Value) (off : Nat) (b : Bool) (bs : List UInt8) (m fo : Nat) (fb : Bool) (hy : YOk y0 y1 y2 y3 y4 y5) : (mc_A y0 y1 y2 y3 y4 y5 off b bs m fo fb).Wf 3:=by
 refine ⟨by show NG ≤ 73; decide,by show 73 ≤ 75; omega,⟨⟨rfl,rfl,fun v hv => ?_⟩,⟨rfl,rfl,fun v hv => ?_⟩,⟨rfl,rfl,fun v hv => ?_⟩,⟨rfl,rfl,fun v hv => ?_⟩,⟨rfl,rfl,flat_bnd (u8s_flat bs)⟩,⟨rfl,rfl,fun v hv => okV_bnd 3 v (mc_cok hy rfl rfl _ rfl v hv)⟩,trivial⟩,rfl,rfl,rfl,by kernel_rfl,rfl,anE_ok fb fo _ bs (mc_cok hy rfl rfl _ (slO_ok rfl))⟩
 ·obtain rfl:=List.mem_singleton.1 hv; exact okV_bnd 3 _ (by kernel_rfl)
 ·obtain rfl:=List.mem_singleton.1 hv; exact okV_bnd 3 _ (by kernel_rfl)
 ·obtain rfl:=List.mem_singleton.1 hv; exact bnd_flat0 _ rfl
 ·obtain rfl:=List.mem_singleton.1 hv; exact rdV_bnd rfl rfl
theorem mc_aflat (y0 y1 y2 y3 y4 y5 : Value) (off : Nat) (b : Bool) (bs : List UInt8) (m fo : Nat) (fb : Bool) : FlatC (mc_A y0 y1 y2 y3 y4 y5 off b bs m fo fb):=⟨fun x hx hne => by
 simp only [rr, tt, mc_A,anE,List.mem_cons,List.not_mem_nil,or_false] at hx
 rcases hx with rfl | rfl | rfl <;> exact absurd rfl hne⟩
theorem mc_aends (y0 y1 y2 y3 y4 y5 : Value) (off : Nat) (b : Bool) (bs : List UInt8) (m fo : Nat) (fb : Bool) (hy : YOk y0 y1 y2 y3 y4 y5) (h : Sy.Heap) (lo : List (Nat × Nat)) (n k : Nat) (q : Prop) (hlo : loHas lo 73 (bs.length - fo)) (e66 : Sy.look h 66 = some ⟨true,none,[.bool fb],none⟩) (e67 : Sy.look h 67 = some ⟨true,none,[rdV 68 fo bs 73],none⟩) (e70 : Sy.look h 70 = some ⟨true,none,[y0,y1,y2,slO 74 m,y3,y4,y5],none⟩) :
  (mc_A y0 y1 y2 y3 y4 y5 off b bs m fo fb).Ends 3 (fun l => Nat.blt l 75) id undef ⟨n,h,lo,0,[],k,q⟩:=by
 refine ⟨fun _ _ => rfl,⟨⟨rfl,rfl,rfl,?_⟩,⟨rfl,by simp only [rr, tt, List.all_cons,List.all_nil,Bool.and_true]; exact rdV_ok rfl rfl,rfl,?_⟩,⟨rfl,List.all_eq_true.2 (mc_cok hy rfl rfl _ (slO_ok rfl)),rfl,?_⟩,trivial⟩,rfl,⟨⟨rfl,hlo⟩,trivial⟩,⟨rfl,rfl⟩,rfl,⟨⟨rfl,rfl,fun v hv => ?_⟩,⟨rfl,rfl,fun v hv => ?_⟩,⟨rfl,rfl,fun v hv => okV_bnd 3 v (mc_cok hy rfl rfl _ (slO_ok rfl) v hv)⟩,trivial⟩,rfl,bnd_undef _,fun x hx hrw => ?_⟩
 ·show (match Sy.look h 66 with | none => False | some k1 => _)
  rw [e66]; exact ⟨rfl,rfl,trivial,rfl⟩
 ·show (match Sy.look h 67 with | none => False | some k1 => _)
  rw [e67]; exact ⟨rfl,rfl,trivial,by simp only [rr, tt, List.map_cons,List.map_nil,rdV_rn]; rfl⟩
 ·show (match Sy.look h 70 with | none => False | some k1 => _)
  rw [e70]; exact ⟨rfl,rfl,trivial,(mc_crn hy rfl rfl _ _ (slO_rn id 3 74 m)).symm⟩
 ·obtain rfl:=List.mem_singleton.1 hv; exact bnd_flat0 _ rfl
 ·obtain rfl:=List.mem_singleton.1 hv; exact rdV_bnd rfl rfl
 ·simp only [rr, tt, mc_A,anE,List.mem_cons,List.not_mem_nil,or_false] at hx
  rcases hx with rfl | rfl | rfl <;> cases hrw
theorem mc_any (y0 y1 y2 y3 y4 y5 : Value) (off : Nat) (b : Bool) (bs : List UInt8) (hy : YOk y0 y1 y2 y3 y4 y5) (ho : off ≤ 1000000000) (hl : bs.length ≤ 1000000000) : ConOk Try.prog 42 3 (mc_A y0 y1 y2 y3 y4 y5 off b bs (anCa 4096 off b bs).length (anCo 4096 off b bs) (anCb 4096 off b bs)):=by
 have hw:=mc_awf y0 y1 y2 y3 y4 y5 off b bs (anCa 4096 off b bs).length (anCo 4096 off b bs) (anCb 4096 off b bs) hy
 have f5 : ∀ xs p d,(u8s xs).all (okV p d) = true:=fun xs _ _ => flat_all (u8s_flat xs)
 have f6 : ∀ xs σ d,(u8s xs).map (rnV σ d) = u8s xs:=fun xs _ _ => flat_map (u8s_flat xs)
 cases hz : noneB 4096 off b bs
 ·obtain ⟨z1,z2⟩:=noneB_no hz
  have hc:=mc_con y0 y1 y2 y3 y4 y5 off b bs hy ho hl z1 z2
  have a1 : (anCa 4096 off b bs) = rCa bs (numV 4 off bs) (numO 4 off bs):=by unfold anCa; rw [hz]; rfl
  have a2 : (anCo 4096 off b bs) = rCo bs (numV 4 off bs) (numO 4 off bs):=by unfold anCo; rw [hz]; rfl
  have a3 : (anCb 4096 off b bs) = rCb bs (numV 4 off bs) (numO 4 off bs):=by unfold anCb; rw [hz]; rfl
  have hne:=rCa_ne bs (numV 4 off bs) (numO 4 off bs) z1
  rw [a1,a2,a3] at hw ⊢
  generalize rCa bs (numV 4 off bs) (numO 4 off bs) = ra at hc hw hne ⊢
  generalize rCo bs (numV 4 off bs) (numO 4 off bs) = ro at hc hw ⊢
  generalize rCb bs (numV 4 off bs) (numO 4 off bs) = rb at hc hw ⊢
  -- what was known of the numbers is let go
  refine ⟨hc.enters,fun r w h1 h2 h3 h4 => (hc.calls r w h1 h2 h3 h4).mono ?_,hw.ng,hw.le,hw.wf0,hw.wf1,fun u hu => List.all_eq_true.1 hw.args u hu,hw.res,fun g k hk => hw.ok _ (look_mem hk)⟩
  rintro e w' ⟨r',he,T,hb⟩
  have sub : ∀ g kk,Sy.look (mc_A y0 y1 y2 y3 y4 y5 off b bs ra.length ro rb).s1.h g = some kk → Sy.look (mc_C y0 y1 y2 y3 y4 y5 off b bs ra ro rb).s1.h g = some kk:=by
   intro g kk hk
   have e1 : (mc_A y0 y1 y2 y3 y4 y5 off b bs ra.length ro rb).s1.h = [(66,⟨true,none,[.bool rb],none⟩),(67,⟨true,none,[rdV 68 ro bs 73],none⟩),(70,⟨true,none,[y0,y1,y2,.slice (some ⟨74,0,none⟩) ra.length (big + 74),y3,y4,y5],none⟩)]:=by
    show anE rb ro [y0,y1,y2,slO 74 ra.length,y3,y4,y5] bs = _
    rw [slO_pos hne]; rfl
   have e2 : (mc_C y0 y1 y2 y3 y4 y5 off b bs ra ro rb).s1.h = (mc_A y0 y1 y2 y3 y4 y5 off b bs ra.length ro rb).s1.h ++ [(74,⟨true,some (74,1),u32s ra,none⟩)]:=by rw [e1]; rfl
   rw [e2,look_append,hk]; rfl
  exact ⟨r',he,⟨T.ext,T.dom,T.le,T.good0,T.good.sub' (fun g kk hk => ⟨kk,sub g kk hk,.inl rfl,rfl,rfl,id⟩) (fun x hx => by
   simp only [rr, tt, Con.s1,mc_A,List.mem_cons,List.not_mem_nil,or_false] at hx
   subst hx
   exact List.mem_cons_self ..),T.os,T.tape,T.output,T.size,T.frame,fun g kk hk => T.own g kk (sub g kk hk)⟩,hb⟩
 ·have hG : okV (fun l => Nat.blt l 73) 3 mcG = true:=by kernel_rfl
  have hc:=mn_con mcG 4096 off b bs hG (by omega) ho hl (noneB_or hz)
  have a1 : (anCa 4096 off b bs).length = 0:=by unfold anCa; rw [hz]; rfl
  have a2 : (anCo 4096 off b bs) = numO 4 off bs:=by unfold anCo; rw [hz]; rfl
  have a3 : (anCb 4096 off b bs) = manyW 4096 off b bs:=by unfold anCb; rw [hz]; rfl
  rw [a1,a2,a3] at hw ⊢
  have hsel : SelOk Try.prog 3 (selSteps [(73,42,mnC mcG 4096 off b bs,[64,65,66,67,68,69,70,71,72])]):=fun f args s c ρ q h hq => (selSteps_ok (P:=Try.prog) (d:=3) (fun x hx => by
   obtain rfl:=List.mem_singleton.1 hx
   exact ⟨hc,⟨fun x hx hne => by
    simp only [rr, tt, mnC,manyE,List.mem_cons,List.not_mem_nil,or_false] at hx
    rcases hx with rfl | rfl <;> exact absurd rfl hne⟩⟩) f args s c ρ q h).1 hq
  have hh:=mc_n y0 y1 y2 y3 y4 y5 off b bs
  have l1 : lift 73 73 [64,65,66,67,68,69,70,71,72] 68 = 68:=rfl
  have l2 : lift 73 73 [64,65,66,67,68,69,70,71,72] 73 = 73:=rfl
  have l3 : lift 73 73 [64,65,66,67,68,69,70,71,72] 69 = 69:=rfl
  simp only [rr, tt, rdV_rn,l1,l2] at hh
  refine conOk_run (run_ok (L:=10) i_names (baseC_ok hsel) (noLoop_ok _) 10) hw (T:=[]) hh ?_ (mc_aends y0 y1 y2 y3 y4 y5 off b bs 0 _ _ hy _ _ _ _ _ (Nat.le_refl _) rfl rfl rfl)
  have e2 : okV (fun l => Nat.blt l 73) 3 (rdV 68 off bs 69) = true:=rdV_ok rfl rfl
  simp only [rr, tt, e2,f5,f6,rdV_rn,l1,l3,Bool.and_self,and_true,true_and,and_self,Nat.le_refl]
def mr_A (y0 y1 y2 y3 y4 y5 : Value) (off : Nat) (b : Bool) (bs : List UInt8) (m fo : Nat) (fb : Bool) : Con:=⟨mnA mrG 256,73,mr_H y0 y1 y2 y3 y4 y5 off b bs,[(69,bs.length - off)],undef,75,anE fb fo [y0,y1,y2,y3,y4,slO 74 m,y5] bs,[(73,bs.length - fo)]⟩
theorem mr_awf (y0 y1 y2 y3 y4 y5 : Value) (off : Nat) (b : Bool) (bs : List UInt8) (m fo : Nat) (fb : Bool) (hy : YOk y0 y1 y2 y3 y4 y5) : (mr_A y0 y1 y2 y3 y4 y5 off b bs m fo fb).Wf 3:=by
 refine ⟨by show NG ≤ 73; decide,by show 73 ≤ 75; omega,⟨⟨rfl,rfl,fun v hv => ?_⟩,⟨rfl,rfl,fun v hv => ?_⟩,⟨rfl,rfl,fun v hv => ?_⟩,⟨rfl,rfl,fun v hv => ?_⟩,⟨rfl,rfl,flat_bnd (u8s_flat bs)⟩,⟨rfl,rfl,fun v hv => okV_bnd 3 v (mr_cok hy rfl rfl _ rfl v hv)⟩,trivial⟩,rfl,rfl,rfl,by kernel_rfl,rfl,anE_ok fb fo _ bs (mr_cok hy rfl rfl _ (slO_ok rfl))⟩
 ·obtain rfl:=List.mem_singleton.1 hv; exact okV_bnd 3 _ (by kernel_rfl)
 ·obtain rfl:=List.mem_singleton.1 hv; exact okV_bnd 3 _ (by kernel_rfl)
 ·obtain rfl:=List.mem_singleton.1 hv; exact bnd_flat0 _ rfl
 ·obtain rfl:=List.mem_singleton.1 hv; exact rdV_bnd rfl rfl
theorem mr_aflat (y0 y1 y2 y3 y4 y5 : Value) (off : Nat) (b : Bool) (bs : List UInt8) (m fo : Nat) (fb : Bool) : FlatC (mr_A y0 y1 y2 y3 y4 y5 off b bs m fo fb):=⟨fun x hx hne => by
 simp only [rr, tt, mr_A,anE,List.mem_cons,List.not_mem_nil,or_false] at hx
 rcases hx with rfl | rfl | rfl <;> exact absurd rfl hne⟩
theorem mr_aends (y0 y1 y2 y3 y4 y5 : Value) (off : Nat) (b : Bool) (bs : List UInt8) (m fo : Nat) (fb : Bool) (hy : YOk y0 y1 y2 y3 y4 y5) (h : Sy.Heap) (lo : List (Nat × Nat)) (n k : Nat) (q : Prop) (hlo : loHas lo 73 (bs.length - fo)) (e66 : Sy.look h 66 = some ⟨true,none,[.bool fb],none⟩) (e67 : Sy.look h 67 = some ⟨true,none,[rdV 68 fo bs 73],none⟩) (e70 : Sy.look h 70 = some ⟨true,none,[y0,y1,y2,y3,y4,slO 74 m,y5],none⟩) :
  (mr_A y0 y1 y2 y3 y4 y5 off b bs m fo fb).Ends 3 (fun l => Nat.blt l 75) id undef ⟨n,h,lo,0,[],k,q⟩:=by
 refine ⟨fun _ _ => rfl,⟨⟨rfl,rfl,rfl,?_⟩,⟨rfl,by simp only [rr, tt, List.all_cons,List.all_nil,Bool.and_true]; exact rdV_ok rfl rfl,rfl,?_⟩,⟨rfl,List.all_eq_true.2 (mr_cok hy rfl rfl _ (slO_ok rfl)),rfl,?_⟩,trivial⟩,rfl,⟨⟨rfl,hlo⟩,trivial⟩,⟨rfl,rfl⟩,rfl,⟨⟨rfl,rfl,fun v hv => ?_⟩,⟨rfl,rfl,fun v hv => ?_⟩,⟨rfl,rfl,fun v hv => okV_bnd 3 v (mr_cok hy rfl rfl _ (slO_ok rfl) v hv)⟩,trivial⟩,rfl,bnd_undef _,fun x hx hrw => ?_⟩
 ·show (match Sy.look h 66 with | none => False | some k1 => _)
  rw [e66]; exact ⟨rfl,rfl,trivial,rfl⟩
 ·show (match Sy.look h 67 with | none => False | some k1 => _)
  rw [e67]; exact ⟨rfl,rfl,trivial,by simp only [rr, tt, List.map_cons,List.map_nil,rdV_rn]; rfl⟩
 ·show (match Sy.look h 70 with | none => False | some k1 => _)
  rw [e70]; exact ⟨rfl,rfl,trivial,(mr_crn hy rfl rfl _ _ (slO_rn id 3 74 m)).symm⟩
 ·obtain rfl:=List.mem_singleton.1 hv; exact bnd_flat0 _ rfl
 ·obtain rfl:=List.mem_singleton.1 hv; exact rdV_bnd rfl rfl
 ·simp only [rr, tt, mr_A,anE,List.mem_cons,List.not_mem_nil,or_false] at hx
  rcases hx with rfl | rfl | rfl <;> cases hrw
theorem mr_any (y0 y1 y2 y3 y4 y5 : Value) (off : Nat) (b : Bool) (bs : List UInt8) (hy : YOk y0 y1 y2 y3 y4 y5) (ho : off ≤ 1000000000) (hl : bs.length ≤ 1000000000) : ConOk Try.prog 42 3 (mr_A y0 y1 y2 y3 y4 y5 off b bs (anRa 256 off b bs).length (anRo 256 off b bs) (anRb 256 off b bs)):=by
 have hw:=mr_awf y0 y1 y2 y3 y4 y5 off b bs (anRa 256 off b bs).length (anRo 256 off b bs) (anRb 256 off b bs) hy
 have f5 : ∀ xs p d,(u8s xs).all (okV p d) = true:=fun xs _ _ => flat_all (u8s_flat xs)
 have f6 : ∀ xs σ d,(u8s xs).map (rnV σ d) = u8s xs:=fun xs _ _ => flat_map (u8s_flat xs)
 cases hz : noneB 256 off b bs
 ·obtain ⟨z1,z2⟩:=noneB_no hz
  have hc:=mr_con y0 y1 y2 y3 y4 y5 off b bs hy ho hl z1 z2
  have a1 : (anRa 256 off b bs) = rRa bs (numV 4 off bs) (numO 4 off bs):=by unfold anRa; rw [hz]; rfl
  have a2 : (anRo 256 off b bs) = rRo bs (numV 4 off bs) (numO 4 off bs):=by unfold anRo; rw [hz]; rfl
  have a3 : (anRb 256 off b bs) = rRb bs (numV 4 off bs) (numO 4 off bs):=by unfold anRb; rw [hz]; rfl
  have hne:=rRa_ne bs (numV 4 off bs) (numO 4 off bs) z1
  rw [a1,a2,a3] at hw ⊢
  generalize rRa bs (numV 4 off bs) (numO 4 off bs) = ra at hc hw hne ⊢
  generalize rRo bs (numV 4 off bs) (numO 4 off bs) = ro at hc hw ⊢
  generalize rRb bs (numV 4 off bs) (numO 4 off bs) = rb at hc hw ⊢
  -- what was known of the numbers is let go
  refine ⟨hc.enters,fun r w h1 h2 h3 h4 => (hc.calls r w h1 h2 h3 h4).mono ?_,hw.ng,hw.le,hw.wf0,hw.wf1,fun u hu => List.all_eq_true.1 hw.args u hu,hw.res,fun g k hk => hw.ok _ (look_mem hk)⟩
  rintro e w' ⟨r',he,T,hb⟩
  have sub : ∀ g kk,Sy.look (mr_A y0 y1 y2 y3 y4 y5 off b bs ra.length ro rb).s1.h g = some kk → Sy.look (mr_C y0 y1 y2 y3 y4 y5 off b bs ra ro rb).s1.h g = some kk:=by
   intro g kk hk
   have e1 : (mr_A y0 y1 y2 y3 y4 y5 off b bs ra.length ro rb).s1.h = [(66,⟨true,none,[.bool rb],none⟩),(67,⟨true,none,[rdV 68 ro bs 73],none⟩),(70,⟨true,none,[y0,y1,y2,y3,y4,.slice (some ⟨74,0,none⟩) ra.length (big + 74),y5],none⟩)]:=by
    show anE rb ro [y0,y1,y2,y3,y4,slO 74 ra.length,y5] bs = _
    rw [slO_pos hne]; rfl
   have e2 : (mr_C y0 y1 y2 y3 y4 y5 off b bs ra ro rb).s1.h = (mr_A y0 y1 y2 y3 y4 y5 off b bs ra.length ro rb).s1.h ++ [(74,⟨true,some (74,6),rels ra,none⟩)]:=by rw [e1]; rfl
   rw [e2,look_append,hk]; rfl
  exact ⟨r',he,⟨T.ext,T.dom,T.le,T.good0,T.good.sub' (fun g kk hk => ⟨kk,sub g kk hk,.inl rfl,rfl,rfl,id⟩) (fun x hx => by
   simp only [rr, tt, Con.s1,mr_A,List.mem_cons,List.not_mem_nil,or_false] at hx
   subst hx
   exact List.mem_cons_self ..),T.os,T.tape,T.output,T.size,T.frame,fun g kk hk => T.own g kk (sub g kk hk)⟩,hb⟩
 ·have hG : okV (fun l => Nat.blt l 73) 3 mrG = true:=by kernel_rfl
  have hc:=mn_con mrG 256 off b bs hG (by omega) ho hl (noneB_or hz)
  have a1 : (anRa 256 off b bs).length = 0:=by unfold anRa; rw [hz]; rfl
  have a2 : (anRo 256 off b bs) = numO 4 off bs:=by unfold anRo; rw [hz]; rfl
  have a3 : (anRb 256 off b bs) = manyW 256 off b bs:=by unfold anRb; rw [hz]; rfl
  rw [a1,a2,a3] at hw ⊢
  have hsel : SelOk Try.prog 3 (selSteps [(73,42,mnC mrG 256 off b bs,[64,65,66,67,68,69,70,71,72])]):=fun f args s c ρ q h hq => (selSteps_ok (P:=Try.prog) (d:=3) (fun x hx => by
   obtain rfl:=List.mem_singleton.1 hx
   exact ⟨hc,⟨fun x hx hne => by
    simp only [rr, tt, mnC,manyE,List.mem_cons,List.not_mem_nil,or_false] at hx
    rcases hx with rfl | rfl <;> exact absurd rfl hne⟩⟩) f args s c ρ q h).1 hq
  have hh:=mr_n y0 y1 y2 y3 y4 y5 off b bs
  have l1 : lift 73 73 [64,65,66,67,68,69,70,71,72] 68 = 68:=rfl
  have l2 : lift 73 73 [64,65,66,67,68,69,70,71,72] 73 = 73:=rfl
  have l3 : lift 73 73 [64,65,66,67,68,69,70,71,72] 69 = 69:=rfl
  simp only [rr, tt, rdV_rn,l1,l2] at hh
  refine conOk_run (run_ok (L:=10) i_names (baseC_ok hsel) (noLoop_ok _) 10) hw (T:=[]) hh ?_ (mr_aends y0 y1 y2 y3 y4 y5 off b bs 0 _ _ hy _ _ _ _ _ (Nat.le_refl _) rfl rfl rfl)
  have e2 : okV (fun l => Nat.blt l 73) 3 (rdV 68 off bs 69) = true:=rdV_ok rfl rfl
  simp only [rr, tt, e2,f5,f6,rdV_rn,l1,l3,Bool.and_self,and_true,true_and,and_self,Nat.le_refl]
def ms_A (y0 y1 y2 y3 y4 y5 : Value) (off : Nat) (b : Bool) (bs : List UInt8) (m fo : Nat) (fb : Bool) : Con:=⟨mnA msG 4,73,ms_H y0 y1 y2 y3 y4 y5 off b bs,[(69,bs.length - off)],undef,75,anE fb fo [y0,y1,y2,y3,y4,y5,slO 74 m] bs,[(73,bs.length - fo)]⟩
theorem ms_awf (y0 y1 y2 y3 y4 y5 : Value) (off : Nat) (b : Bool) (bs : List UInt8) (m fo : Nat) (fb : Bool) (hy : YOk y0 y1 y2 y3 y4 y5) : (ms_A y0 y1 y2 y3 y4 y5 off b bs m fo fb).Wf 3:=by
 refine ⟨by show NG ≤ 73; decide,by show 73 ≤ 75; omega,⟨⟨rfl,rfl,fun v hv => ?_⟩,⟨rfl,rfl,fun v hv => ?_⟩,⟨rfl,rfl,fun v hv => ?_⟩,⟨rfl,rfl,fun v hv => ?_⟩,⟨rfl,rfl,flat_bnd (u8s_flat bs)⟩,⟨rfl,rfl,fun v hv => okV_bnd 3 v (ms_cok hy rfl rfl _ rfl v hv)⟩,trivial⟩,rfl,rfl,rfl,by kernel_rfl,rfl,anE_ok fb fo _ bs (ms_cok hy rfl rfl _ (slO_ok rfl))⟩
 ·obtain rfl:=List.mem_singleton.1 hv; exact okV_bnd 3 _ (by kernel_rfl)
 ·obtain rfl:=List.mem_singleton.1 hv; exact okV_bnd 3 _ (by kernel_rfl)
 ·obtain rfl:=List.mem_singleton.1 hv; exact bnd_flat0 _ rfl
 ·obtain rfl:=List.mem_singleton.1 hv; exact rdV_bnd rfl rfl
theorem ms_aflat (y0 y1 y2 y3 y4 y5 : Value) (off : Nat) (b : Bool) (bs : List UInt8) (m fo : Nat) (fb : Bool) : FlatC (ms_A y0 y1 y2 y3 y4 y5 off b bs m fo fb):=⟨fun x hx hne => by
 simp only [rr, tt, ms_A,anE,List.mem_cons,List.not_mem_nil,or_false] at hx
 rcases hx with rfl | rfl | rfl <;> exact absurd rfl hne⟩
theorem ms_aends (y0 y1 y2 y3 y4 y5 : Value) (off : Nat) (b : Bool) (bs : List UInt8) (m fo : Nat) (fb : Bool) (hy : YOk y0 y1 y2 y3 y4 y5) (h : Sy.Heap) (lo : List (Nat × Nat)) (n k : Nat) (q : Prop) (hlo : loHas lo 73 (bs.length - fo)) (e66 : Sy.look h 66 = some ⟨true,none,[.bool fb],none⟩) (e67 : Sy.look h 67 = some ⟨true,none,[rdV 68 fo bs 73],none⟩) (e70 : Sy.look h 70 = some ⟨true,none,[y0,y1,y2,y3,y4,y5,slO 74 m],none⟩) :
  (ms_A y0 y1 y2 y3 y4 y5 off b bs m fo fb).Ends 3 (fun l => Nat.blt l 75) id undef ⟨n,h,lo,0,[],k,q⟩:=by
 refine ⟨fun _ _ => rfl,⟨⟨rfl,rfl,rfl,?_⟩,⟨rfl,by simp only [rr, tt, List.all_cons,List.all_nil,Bool.and_true]; exact rdV_ok rfl rfl,rfl,?_⟩,⟨rfl,List.all_eq_true.2 (ms_cok hy rfl rfl _ (slO_ok rfl)),rfl,?_⟩,trivial⟩,rfl,⟨⟨rfl,hlo⟩,trivial⟩,⟨rfl,rfl⟩,rfl,⟨⟨rfl,rfl,fun v hv => ?_⟩,⟨rfl,rfl,fun v hv => ?_⟩,⟨rfl,rfl,fun v hv => okV_bnd 3 v (ms_cok hy rfl rfl _ (slO_ok rfl) v hv)⟩,trivial⟩,rfl,bnd_undef _,fun x hx hrw => ?_⟩
 ·show (match Sy.look h 66 with | none => False | some k1 => _)
  rw [e66]; exact ⟨rfl,rfl,trivial,rfl⟩
 ·show (match Sy.look h 67 with | none => False | some k1 => _)
  rw [e67]; exact ⟨rfl,rfl,trivial,by simp only [rr, tt, List.map_cons,List.map_nil,rdV_rn]; rfl⟩
 ·show (match Sy.look h 70 with | none => False | some k1 => _)
  rw [e70]; exact ⟨rfl,rfl,trivial,(ms_crn hy rfl rfl _ _ (slO_rn id 3 74 m)).symm⟩
 ·obtain rfl:=List.mem_singleton.1 hv; exact bnd_flat0 _ rfl
 ·obtain rfl:=List.mem_singleton.1 hv; exact rdV_bnd rfl rfl
 ·simp only [rr, tt, ms_A,anE,List.mem_cons,List.not_mem_nil,or_false] at hx
  rcases hx with rfl | rfl | rfl <;> cases hrw
theorem ms_any (y0 y1 y2 y3 y4 y5 : Value) (off : Nat) (b : Bool) (bs : List UInt8) (hy : YOk y0 y1 y2 y3 y4 y5) (ho : off ≤ 1000000000) (hl : bs.length ≤ 1000000000) : ConOk Try.prog 42 3 (ms_A y0 y1 y2 y3 y4 y5 off b bs (anCa 4 off b bs).length (anCo 4 off b bs) (anCb 4 off b bs)):=by
 have hw:=ms_awf y0 y1 y2 y3 y4 y5 off b bs (anCa 4 off b bs).length (anCo 4 off b bs) (anCb 4 off b bs) hy
 have f5 : ∀ xs p d,(u8s xs).all (okV p d) = true:=fun xs _ _ => flat_all (u8s_flat xs)
 have f6 : ∀ xs σ d,(u8s xs).map (rnV σ d) = u8s xs:=fun xs _ _ => flat_map (u8s_flat xs)
 cases hz : noneB 4 off b bs
 ·obtain ⟨z1,z2⟩:=noneB_no hz
  have hc:=ms_con y0 y1 y2 y3 y4 y5 off b bs hy ho hl z1 z2
  have a1 : (anCa 4 off b bs) = rCa bs (numV 4 off bs) (numO 4 off bs):=by unfold anCa; rw [hz]; rfl
  have a2 : (anCo 4 off b bs) = rCo bs (numV 4 off bs) (numO 4 off bs):=by unfold anCo; rw [hz]; rfl
  have a3 : (anCb 4 off b bs) = rCb bs (numV 4 off bs) (numO 4 off bs):=by unfold anCb; rw [hz]; rfl
  have hne:=rCa_ne bs (numV 4 off bs) (numO 4 off bs) z1
  rw [a1,a2,a3] at hw ⊢
  generalize rCa bs (numV 4 off bs) (numO 4 off bs) = ra at hc hw hne ⊢
  generalize rCo bs (numV 4 off bs) (numO 4 off bs) = ro at hc hw ⊢
  generalize rCb bs (numV 4 off bs) (numO 4 off bs) = rb at hc hw ⊢
  -- what was known of the numbers is let go
  refine ⟨hc.enters,fun r w h1 h2 h3 h4 => (hc.calls r w h1 h2 h3 h4).mono ?_,hw.ng,hw.le,hw.wf0,hw.wf1,fun u hu => List.all_eq_true.1 hw.args u hu,hw.res,fun g k hk => hw.ok _ (look_mem hk)⟩
  rintro e w' ⟨r',he,T,hb⟩
  have sub : ∀ g kk,Sy.look (ms_A y0 y1 y2 y3 y4 y5 off b bs ra.length ro rb).s1.h g = some kk → Sy.look (ms_C y0 y1 y2 y3 y4 y5 off b bs ra ro rb).s1.h g = some kk:=by
   intro g kk hk
   have e1 : (ms_A y0 y1 y2 y3 y4 y5 off b bs ra.length ro rb).s1.h = [(66,⟨true,none,[.bool rb],none⟩),(67,⟨true,none,[rdV 68 ro bs 73],none⟩),(70,⟨true,none,[y0,y1,y2,y3,y4,y5,.slice (some ⟨74,0,none⟩) ra.length (big + 74)],none⟩)]:=by
    show anE rb ro [y0,y1,y2,y3,y4,y5,slO 74 ra.length] bs = _
    rw [slO_pos hne]; rfl
   have e2 : (ms_C y0 y1 y2 y3 y4 y5 off b bs ra ro rb).s1.h = (ms_A y0 y1 y2 y3 y4 y5 off b bs ra.length ro rb).s1.h ++ [(74,⟨true,some (74,1),u32s ra,none⟩)]:=by rw [e1]; rfl
   rw [e2,look_append,hk]; rfl
  exact ⟨r',he,⟨T.ext,T.dom,T.le,T.good0,T.good.sub' (fun g kk hk => ⟨kk,sub g kk hk,.inl rfl,rfl,rfl,id⟩) (fun x hx => by
   simp only [rr, tt, Con.s1,ms_A,List.mem_cons,List.not_mem_nil,or_false] at hx
   subst hx
   exact List.mem_cons_self ..),T.os,T.tape,T.output,T.size,T.frame,fun g kk hk => T.own g kk (sub g kk hk)⟩,hb⟩
 ·have hG : okV (fun l => Nat.blt l 73) 3 msG = true:=by kernel_rfl
  have hc:=mn_con msG 4 off b bs hG (by omega) ho hl (noneB_or hz)
  have a1 : (anCa 4 off b bs).length = 0:=by unfold anCa; rw [hz]; rfl
  have a2 : (anCo 4 off b bs) = numO 4 off bs:=by unfold anCo; rw [hz]; rfl
  have a3 : (anCb 4 off b bs) = manyW 4 off b bs:=by unfold anCb; rw [hz]; rfl
  rw [a1,a2,a3] at hw ⊢
  have hsel : SelOk Try.prog 3 (selSteps [(73,42,mnC msG 4 off b bs,[64,65,66,67,68,69,70,71,72])]):=fun f args s c ρ q h hq => (selSteps_ok (P:=Try.prog) (d:=3) (fun x hx => by
   obtain rfl:=List.mem_singleton.1 hx
   exact ⟨hc,⟨fun x hx hne => by
    simp only [rr, tt, mnC,manyE,List.mem_cons,List.not_mem_nil,or_false] at hx
    rcases hx with rfl | rfl <;> exact absurd rfl hne⟩⟩) f args s c ρ q h).1 hq
  have hh:=ms_n y0 y1 y2 y3 y4 y5 off b bs
  have l1 : lift 73 73 [64,65,66,67,68,69,70,71,72] 68 = 68:=rfl
  have l2 : lift 73 73 [64,65,66,67,68,69,70,71,72] 73 = 73:=rfl
  have l3 : lift 73 73 [64,65,66,67,68,69,70,71,72] 69 = 69:=rfl
  simp only [rr, tt, rdV_rn,l1,l2] at hh
  refine conOk_run (run_ok (L:=10) i_names (baseC_ok hsel) (noLoop_ok _) 10) hw (T:=[]) hh ?_ (ms_aends y0 y1 y2 y3 y4 y5 off b bs 0 _ _ hy _ _ _ _ _ (Nat.le_refl _) rfl rfl rfl)
  have e2 : okV (fun l => Nat.blt l 73) 3 (rdV 68 off bs 69) = true:=rdV_ok rfl rfl
  simp only [rr, tt, e2,f5,f6,rdV_rn,l1,l3,Bool.and_self,and_true,true_and,and_self,Nat.le_refl]
end Go.Proofs.Ytdljpnebpoaeiaa
namespace Go.Proofs.Ytdljpnebpoaeiaa
open Go.RowKit
open Sy
theorem tk_a (bs : List UInt8) (off n k : Nat) : evF Try.prog noBase noLoop 100 10 44 [Value.pointer (some ⟨64,0,none⟩),.int .i64 (↑k)] ⟨67,rdA bs off n,[(66,n)],0,[(0,false),(1,false),(2,false),(3,false),(4,false),(5,false),(6,false),(7,false),(8,false),(9,false),(10,true)],0,True⟩ = some (Value.tuple { toList:=[Value.string ⟨⟨List.map toU8 (List.take (↑k:Int).toNat (List.drop off (u8s bs)))⟩⟩,.bool true] },{ n:=69,h:=[(64,{ rw:=true,op:=none,cells:=[Value.slice (some { block:=65,off:=off+(↑k:Int).toNat * 1 }) (n - (↑k:Int).toNat) 9223372036854775876],it:=none : Sy.Blk }),(65,⟨false,some (0,0),u8s bs,none⟩)],lo:=[(68,n - (↑k:Int).toNat),(67,(↑k:Int).toNat),(66,n)],esc:=0,T:=[],k:=11,O:=(bif decide ((0:Int) ≤ (↑k:Int)) && decide ((↑k:Int) ≤ (↑n:Int)) then bif (List.take (↑k:Int).toNat (List.drop off (u8s bs))).all isU8 then bif hasN (off+(↑k:Int).toNat) (u8s bs) then bif decide ((0:Int) ≤ (↑k:Int)) && decide ((↑k:Int) ≤ (↑(↑k:Int).toNat:Int)) then bif decide ((0:Int) ≤ (↑k:Int)) && decide ((↑k:Int) ≤ (↑n:Int)) then (((((((((True∧decide ((↑k:Int) < (0:Int)) = false)∧decide ((↑k:Int) < (0:Int)) = false)∧decide ((↑k:Int) < (0:Int)) = false)∧rr false)∧decide ((↑k:Int) < (0:Int)) = false)∧decide ((↑k:Int) < (0:Int)) = false)∧decide ((↑k:Int) > (↑n:Int)) = false)∧decide ((↑k:Int) > (↑n:Int)) = false)∧decide ((↑k:Int) > (↑n:Int)) = false)∧false = false else False else False else False else False else False)∧(↑k:Int).toNat.blt n = true : St }):=by kernel_rfl
theorem tk_b (bs : List UInt8) (off n k : Nat) : evF Try.prog noBase noLoop 100 10 44 [Value.pointer (some ⟨64,0,none⟩),.int .i64 (↑k)] ⟨67,rdA bs off n,[(66,n)],0,[(0,false),(1,false),(2,false),(3,false),(4,false),(5,false),(6,false),(7,false),(8,false),(9,false),(10,false)],0,True⟩ = some (Value.tuple { toList:=[Value.string ⟨⟨List.map toU8 (List.take (↑k:Int).toNat (List.drop off (u8s bs)))⟩⟩,.bool true] },{ n:=69,h:=[(64,{ rw:=true,op:=none,cells:=[Value.slice (some { block:=65,off:=0,spot:=some 68 }) (n - (↑k:Int).toNat) 9223372036854775876],it:=none : Sy.Blk }),(65,⟨false,some (0,0),u8s bs,none⟩)],lo:=[(68,n - (↑k:Int).toNat),(67,(↑k:Int).toNat),(66,n)],esc:=0,T:=[],k:=11,O:=(bif decide ((0:Int) ≤ (↑k:Int)) && decide ((↑k:Int) ≤ (↑n:Int)) then bif (List.take (↑k:Int).toNat (List.drop off (u8s bs))).all isU8 then bif hasN (off+(↑k:Int).toNat) (u8s bs) then bif decide ((0:Int) ≤ (↑k:Int)) && decide ((↑k:Int) ≤ (↑(↑k:Int).toNat:Int)) then bif decide ((0:Int) ≤ (↑k:Int)) && decide ((↑k:Int) ≤ (↑n:Int)) then (((((((((True∧decide ((↑k:Int) < (0:Int)) = false)∧decide ((↑k:Int) < (0:Int)) = false)∧decide ((↑k:Int) < (0:Int)) = false)∧rr false)∧decide ((↑k:Int) < (0:Int)) = false)∧decide ((↑k:Int) < (0:Int)) = false)∧decide ((↑k:Int) > (↑n:Int)) = false)∧decide ((↑k:Int) > (↑n:Int)) = false)∧decide ((↑k:Int) > (↑n:Int)) = false)∧false = false else False else False else False else False else False)∧(↑k:Int).toNat.blt n = false : St }):=by kernel_rfl
theorem tk_c (bs : List UInt8) (off n k : Nat) : evF Try.prog noBase noLoop 100 10 44 [Value.pointer (some ⟨64,0,none⟩),.int .i64 (↑k)] ⟨67,rdA bs off n,[(66,n)],0,[(0,false),(1,false),(2,false),(3,false),(4,false),(5,false),(6,true),(7,true),(8,true),(9,true)],0,True⟩ = some (Value.tuple { toList:=[Value.string { data:=#[] : ByteArray },.bool false] },{ n:=67,h:=[(64,{ rw:=true,op:=none,cells:=[Value.slice (some { block:=65,off:=off }) n 9223372036854775874],it:=none : Sy.Blk }),(65,⟨false,some (0,0),u8s bs,none⟩)],lo:=[(66,n)],esc:=0,T:=[],k:=10,O:=(((((((((True∧decide ((↑k:Int) < (0:Int)) = false)∧decide ((↑k:Int) < (0:Int)) = false)∧decide ((↑k:Int) < (0:Int)) = false)∧rr false)∧decide ((↑k:Int) < (0:Int)) = false)∧decide ((↑k:Int) < (0:Int)) = false)∧decide ((↑k:Int) > (↑n:Int)) = true)∧decide ((↑k:Int) > (↑n:Int)) = true)∧decide ((↑k:Int) > (↑n:Int)) = true)∧true = true : St }):=by kernel_rfl
theorem tk_d (bs : List UInt8) : evF Try.prog noBase noLoop 100 10 44 [Value.pointer (some ⟨64,0,none⟩),.int .i64 0] ⟨67,rdE bs,[(66,0)],0,[(0,false),(1,false),(2,false),(3,false),(4,false),(5,false),(6,false),(7,false),(8,false),(9,false)],0,True⟩ = some (Value.tuple { toList:=[Value.string ⟨⟨[]⟩⟩,.bool true] },{ n:=69,h:=[(64,{ rw:=true,op:=none,cells:=[Value.slice (some { block:=65,off:=0,spot:=some 68 }) 0 9223372036854775876],it:=none : Sy.Blk }),(65,⟨false,some (0,0),u8s bs,none⟩)],lo:=[(68,0),(67,0),(66,0)],esc:=0,T:=[],k:=10,O:=(((((((((True∧rr false)∧rr false)∧rr false)∧rr false)∧rr false)∧rr false)∧rr false)∧rr false)∧rr false)∧false = false : St }):=by kernel_rfl
theorem tk_e (bs : List UInt8) (k : Nat) : evF Try.prog noBase noLoop 100 10 44 [Value.pointer (some ⟨64,0,none⟩),.int .i64 (↑k)] ⟨67,rdE bs,[(66,0)],0,[(0,false),(1,false),(2,false),(3,false),(4,false),(5,false),(6,true),(7,true),(8,true),(9,true)],0,True⟩ = some (Value.tuple { toList:=[Value.string { data:=#[] : ByteArray },.bool false] },{ n:=67,h:=[(64,{ rw:=true,op:=none,cells:=[Value.slice (some { block:=65,off:=0,spot:=some 66 }) 0 9223372036854775874],it:=none : Sy.Blk }),(65,⟨false,some (0,0),u8s bs,none⟩)],lo:=[(66,0)],esc:=0,T:=[],k:=10,O:=(((((((((True∧decide ((↑k:Int) < (0:Int)) = false)∧decide ((↑k:Int) < (0:Int)) = false)∧decide ((↑k:Int) < (0:Int)) = false)∧rr false)∧decide ((↑k:Int) < (0:Int)) = false)∧decide ((↑k:Int) < (0:Int)) = false)∧decide ((↑k:Int) > (0:Int)) = true)∧decide ((↑k:Int) > (0:Int)) = true)∧decide ((↑k:Int) > (0:Int)) = true)∧true = true : St }):=by kernel_rfl
theorem lf_a (bs : List UInt8) (off n : Nat) : evF Try.prog noBase noLoop 100 10 47 [Value.pointer (some ⟨64,0,none⟩)] ⟨67,rdA bs off n,[(66,n)],0,[],0,True⟩ = some (Value.int .i64 (↑n),{ n:=67,h:=[(64,{ rw:=true,op:=none,cells:=[Value.slice (some { block:=65,off:=off }) n 9223372036854775874],it:=none : Sy.Blk }),(65,⟨false,some (0,0),u8s bs,none⟩)],lo:=[(66,n)],esc:=0,T:=[],k:=0,O:=True : St }):=by kernel_rfl
theorem lf_b (bs : List UInt8) : evF Try.prog noBase noLoop 100 10 47 [Value.pointer (some ⟨64,0,none⟩)] ⟨67,rdE bs,[(66,0)],0,[],0,True⟩ = some (Value.int .i64 0,{ n:=67,h:=[(64,{ rw:=true,op:=none,cells:=[Value.slice (some { block:=65,off:=0,spot:=some 66 }) 0 9223372036854775874],it:=none : Sy.Blk }),(65,⟨false,some (0,0),u8s bs,none⟩)],lo:=[(66,0)],esc:=0,T:=[],k:=0,O:=True : St }):=by kernel_rfl
def takO (k off : Nat) (bs : List UInt8) : Nat:=bif decide (k ≤ bs.length - off) then (bif decide (k < bs.length - off) then off + k else bs.length + 1) else off
def takIs (k off : Nat) (bs : List UInt8) : Bool:=decide (k ≤ bs.length - off)
def takV (k off : Nat) (bs : List UInt8) : List UInt8:=bif takIs k off bs then (bs.drop off).take k else []
def takC (k off : Nat) (bs : List UInt8) : Con :=
 ⟨[.pointer (some ⟨64,0,none⟩),.int .i64 (k : Int)],67,rdHH off bs,[(66,bs.length - off)],.tuple ⟨[.string ⟨⟨takV k off bs⟩⟩,.bool (takIs k off bs)]⟩,68,rdH (takO k off bs) bs 67,[(67,bs.length - takO k off bs)]⟩
def lefC (off : Nat) (bs : List UInt8) : Con:=⟨[.pointer (some ⟨64,0,none⟩)],67,rdHH off bs,[(66,bs.length - off)],.int .i64 ((bs.length - off : Nat) : Int),67,[],[]⟩
def tkσ (l : Nat) : Nat:=if l = 67 then 68 else l
theorem str_cut (bs : List UInt8) (k off : Nat) : List.map toU8 (List.take k (List.drop off (u8s bs))) = (bs.drop off).take k:=by
 unfold u8s
 rw [← List.map_drop,← List.map_take,List.map_map]
 conv => rhs; rw [← List.map_id ((bs.drop off).take k)]
 apply List.map_congr_left
 intro x _
 show UInt8.ofNat ((x.toNat : Int)).toNat = x
 simp
theorem tak_wf (k off : Nat) (bs : List UInt8) : (takC k off bs).Wf 3:=by
 refine ⟨by show NG ≤ 67; decide,by show 67 ≤ 68; omega,⟨⟨rfl,rfl,fun v hv => ?_⟩,⟨rfl,rfl,flat_bnd (u8s_flat bs)⟩,trivial⟩,rfl,rfl,rfl,by kernel_rfl,by kernel_rfl,fun x hx v hv => ?_⟩
 ·obtain rfl:=List.mem_singleton.1 hv; exact rdV_bnd rfl rfl
 ·obtain rfl:=List.mem_singleton.1 hx
  obtain rfl:=List.mem_singleton.1 hv; exact rdV_ok rfl rfl
theorem tak_any {k off : Nat} {bs : List UInt8} {T : List (Nat × Bool)} {h1 : Sy.Heap} {n : Nat} {lo1 : List (Nat × Nat)} {kk : Nat} {q : Prop} {c : Nat} {σ : Nat → Nat} {is : Bool} {v : List UInt8} {o : Nat} (hi : takIs k off bs = is) (hv : takV k off bs = v) (ho : takO k off bs = o)
  (h : evF Try.prog noBase noLoop 100 10 44 [.pointer (some ⟨64,0,none⟩),.int .i64 (k : Int)] ⟨67,rdHH off bs,[(66,bs.length - off)],0,T,0,True⟩ = some (.tuple ⟨[.string ⟨⟨v⟩⟩,.bool is]⟩,⟨n,(64,⟨true,none,[rdV 65 o bs c],none⟩) :: h1,(c,bs.length - o) :: lo1,0,[],kk,q⟩)) (hq : q)
  (h0 : ∀ l,l < NG → σ l = l) (h64 : σ 64 = 64) (h65 : σ 65 = 65) (h67 : σ 67 = c) : ConOk Try.prog 44 3 (takC k off bs):=by
 subst hi hv ho
 refine conOk_run (run_ok (L:=100) i_names (noBase_ok _) (noLoop_ok _) 10) (tak_wf k off bs) (T:=T) h hq (p:=fun l => Nat.blt l 68) (σ:=σ) ?_
 have k64 : keeps 67 68 σ (fun l => Nat.blt l 68) 64 = true:=by unfold keeps; rw [h64]; rfl
 have k65 : keeps 67 68 σ (fun l => Nat.blt l 68) 65 = true:=by unfold keeps; rw [h65]; rfl
 have k67 : keeps 67 68 σ (fun l => Nat.blt l 68) 67 = true:=rfl
 refine ⟨h0,⟨⟨rfl,by simp only [rr, tt, List.all_cons,List.all_nil,Bool.and_true]; exact rdV_ok rfl rfl,rfl,?_⟩,trivial⟩,rfl,⟨⟨rfl,?_⟩,trivial⟩,⟨rfl,rfl⟩,rfl,⟨⟨k64,rfl,fun v hv => ?_⟩,trivial⟩,by simp only [rr, tt, takC,List.all_cons,List.all_nil,k67,Bool.and_self],okV_bnd 3 _ rfl,fun x hx hrw => ?_⟩
 ·show (match Sy.look _ (σ 64) with | none => False | some k1 => _)
  rw [h64]
  refine ⟨rfl,rfl,trivial,?_⟩
  simp only [rr, tt, List.map_cons,List.map_nil,rdV_rn,h65,h67]
 ·show loHas _ (σ 67) _
  rw [h67]
  show bif Nat.beq c c then _ else _
  rw [Nat.beq_refl]; exact Nat.le_refl _
 ·obtain rfl:=List.mem_singleton.1 hv; exact rdV_bnd k65 k67
 ·obtain rfl:=List.mem_singleton.1 hx; cases hrw
theorem tk_ng (σ : Nat → Nat) (h : ∀ l,l ≠ 67 → σ l = l) : ∀ l,l < NG → σ l = l:=fun l hl => h l (by
 have : NG ≤ 66:=by decide
 omega)
theorem tak_con (k off : Nat) (bs : List UInt8) (hl : bs.length ≤ 1000000000) (ho : off ≤ 1000000001) (hk : k < 4294967296) : ConOk Try.prog 44 3 (takC k off bs):=by
 have z1 : decide ((k : Int) < 0) = false:=by simp
 have z2 : decide ((0 : Int) ≤ (k : Int)) = true:=by simp
 have s1:=tk_ng tkσ fun l h => if_neg h
 have s2:=tk_ng nuτ fun l h => if_neg h
 by_cases hA : off < bs.length ∨ off = 0
 ·have hV : rdHH off bs = rdA bs off (bs.length - off):=by unfold rdHH rdA rdV; rw [if_pos hA]
  by_cases hw : k ≤ bs.length - off
  ·have d1 : decide ((k : Int) ≤ ((bs.length - off : Nat) : Int)) = true:=by simp; omega
   have d2 : decide ((k : Int) > ((bs.length - off : Nat) : Int)) = false:=by simp; omega
   have d3 : decide ((k : Int) ≤ (k : Int)) = true:=by simp
   have i1 : takIs k off bs = true:=by unfold takIs; simp [hw]
   have i2 : takV k off bs = (bs.drop off).take k:=by unfold takV; rw [i1]; rfl
   by_cases hx : k < bs.length - off
   ·have i3 : takO k off bs = off + k:=by unfold takO; simp [hw,hx]
    have hh:=tk_a bs off (bs.length - off) k
    simp only [rr, tt, Int.toNat_natCast,Nat.mul_one,str_cut] at hh
    rw [← hV] at hh
    have hc : [Value.slice (some { block:=65,off:=off + k }) (bs.length - off - k) 9223372036854775876] = [rdV 65 (off + k) bs 68]:=by unfold rdV; rw [if_pos (.inl (by omega)),Nat.sub_add_eq]; rfl
    rw [hc,Nat.sub_sub] at hh
    refine tak_any i1 i2 i3 hh ?_ (σ:=tkσ) s1 rfl rfl rfl
    simp (disch:=omega) only [rr, tt, isU8_any,u8s_has,z1,z2,d1,d2,d3,blt_t,decide_eq_true,Bool.and_self,cond_true,and_true,true_and,and_self]
   ·have i3 : takO k off bs = bs.length + 1:=by unfold takO; simp [hw,hx]
    have hh:=tk_b bs off (bs.length - off) k
    simp only [rr, tt, Int.toNat_natCast,Nat.mul_one,str_cut] at hh
    rw [← hV] at hh
    have hc : [Value.slice (some { block:=65,off:=0,spot:=some 68 }) (bs.length - off - k) 9223372036854775876] = [rdV 65 (bs.length + 1) bs 68]:=by unfold rdV; rw [if_neg (by omega),show bs.length - off - k = 0 by omega]; rfl
    have hl2 : bs.length - off - k = bs.length - (bs.length + 1):=by omega
    rw [hc,hl2] at hh
    refine tak_any i1 i2 i3 hh ?_ (σ:=tkσ) s1 rfl rfl rfl
    simp (disch:=omega) only [rr, tt, isU8_any,u8s_has,z1,z2,d1,d2,d3,blt_f,decide_eq_true,Bool.and_self,cond_true,and_true,true_and,and_self]
  ·have d2 : decide ((k : Int) > ((bs.length - off : Nat) : Int)) = true:=by simp; omega
   have i1 : takIs k off bs = false:=by unfold takIs; simp; omega
   have i2 : takV k off bs = []:=by unfold takV; rw [i1]; rfl
   have i3 : takO k off bs = off:=by unfold takO; rw [decide_eq_false hw]; rfl
   have hh:=tk_c bs off (bs.length - off) k
   rw [← hV] at hh
   have hc : [Value.slice (some { block:=65,off:=off }) (bs.length - off) 9223372036854775874] = [rdV 65 off bs 66]:=by unfold rdV; rw [if_pos hA]; rfl
   rw [hc] at hh
   refine tak_any i1 i2 i3 hh ?_ (σ:=nuτ) s2 rfl rfl rfl
   simp only [rr, tt, z1,d2,and_true,true_and,and_self]
 ·have hV : rdHH off bs = rdE bs:=by unfold rdHH rdE rdV; rw [if_neg hA]
  have h00 : bs.length - off = 0:=by omega
  by_cases hw : k = 0
  ·subst hw
   have i1 : takIs 0 off bs = true:=by unfold takIs; simp
   have i2 : takV 0 off bs = []:=by unfold takV; rw [i1]; rfl
   have i3 : takO 0 off bs = bs.length + 1:=by unfold takO; rw [h00]; rfl
   have hh:=tk_d bs
   rw [← hV] at hh
   have hc : [Value.slice (some { block:=65,off:=0,spot:=some 68 }) 0 9223372036854775876] = [rdV 65 (bs.length + 1) bs 68]:=by unfold rdV; rw [if_neg (by omega)]; rfl
   rw [hc] at hh
   have hl2 : bs.length - (bs.length + 1) = 0:=by omega
   refine tak_any i1 i2 i3 (by rw [h00,hl2]; exact hh) ?_ (σ:=tkσ) s1 rfl rfl rfl
   simp only [rr, tt, and_true,true_and,and_self]
  ·have d2 : decide ((k : Int) > 0) = true:=by simp; omega
   have i1 : takIs k off bs = false:=by unfold takIs; rw [h00]; simp; omega
   have i2 : takV k off bs = []:=by unfold takV; rw [i1]; rfl
   have i3 : takO k off bs = off:=by unfold takO; rw [h00,decide_eq_false (by omega)]; rfl
   have hh:=tk_e bs k
   rw [← hV] at hh
   have hc : [Value.slice (some { block:=65,off:=0,spot:=some 66 }) 0 9223372036854775874] = [rdV 65 off bs 66]:=by unfold rdV; rw [if_neg hA]; rfl
   rw [hc] at hh
   refine tak_any i1 i2 i3 (by rw [h00]; exact hh) ?_ (σ:=nuτ) s2 rfl rfl rfl
   simp only [rr, tt, z1,d2,and_true,true_and,and_self]
theorem lef_con (off : Nat) (bs : List UInt8) : ConOk Try.prog 47 3 (lefC off bs):=by
 have hw : (lefC off bs).Wf 3:=by
  refine ⟨by show NG ≤ 67; decide,Nat.le_refl _,⟨⟨rfl,rfl,fun v hv => ?_⟩,⟨rfl,rfl,flat_bnd (u8s_flat bs)⟩,trivial⟩,rfl,rfl,rfl,by kernel_rfl,by kernel_rfl,fun x hx v hv => by cases hx⟩
  obtain rfl:=List.mem_singleton.1 hv; exact rdV_bnd rfl rfl
 have hr:=run_ok (P:=Try.prog) (L:=100) i_names (noBase_ok _) (noLoop_ok _) 10
 by_cases hA : off < bs.length ∨ off = 0
 ·have hV : rdHH off bs = rdA bs off (bs.length - off):=by unfold rdHH rdA rdV; rw [if_pos hA]
  have hh:=lf_a bs off (bs.length - off)
  rw [← hV] at hh
  refine conOk_run (c:=lefC off bs) hr hw (T:=[]) hh ?_ (p:=fun l => Nat.blt l 67) (σ:=id) ⟨fun _ _ => rfl,trivial,rfl,trivial,⟨rfl,rfl⟩,rfl,trivial,rfl,bnd_flat0 _ rfl,fun x hx => by cases hx⟩
  simp only [rr, tt, and_true,true_and,and_self]
 ·have hV : rdHH off bs = rdE bs:=by unfold rdHH rdE rdV; rw [if_neg hA]
  have h00 : bs.length - off = 0:=by omega
  have hh:=lf_b bs
  rw [← hV] at hh
  have e : lefC off bs = ⟨[.pointer (some ⟨64,0,none⟩)],67,rdHH off bs,[(66,0)],.int .i64 0,67,[],[]⟩:=by unfold lefC; rw [h00]; rfl
  rw [e] at hw ⊢
  refine conOk_run hr hw (T:=[]) hh ?_ (p:=fun l => Nat.blt l 67) (σ:=id) ⟨fun _ _ => rfl,trivial,rfl,trivial,⟨rfl,rfl⟩,rfl,trivial,rfl,bnd_flat0 _ rfl,fun x hx => by cases hx⟩
  simp only [rr, tt, and_true,true_and,and_self]
theorem rdV_zero (g : Nat) (bs : List UInt8) (c : Nat) : rdV g 0 bs c = .slice (some ⟨g,0,none⟩) bs.length (big + c):=by unfold rdV; rw [if_pos (.inr rfl),Nat.sub_zero]
end Go.Proofs.Ytdljpnebpoaeiaa
namespace Go.Proofs.Ytdljpnebpoaeiaa
open Go.RowKit
open Sy
def imgO (a b c : Nat) (p s t : Int) (nc nr ns : Nat) (d : List UInt8) : Value:=.agg ⟨[.int .i64 p,.int .i64 s,.int .i64 t,slO a nc,.string ⟨⟨d⟩⟩,slO b nr,slO c ns]⟩
def imgNV (p s t : Int) (nc ns : Nat) (d : List UInt8) : Value:=.agg ⟨[.int .i64 p,.int .i64 s,.int .i64 t,.slice (some ⟨64,0,none⟩) nc (big + 64),.string ⟨⟨d⟩⟩,.slice none 0 0,.slice (some ⟨66,0,none⟩) ns (big + 66)]⟩
def ckNil (p s t : Int) (nc : Nat) (d : List UInt8) (so : List Nat) (e : Int) : Con:=⟨[imgNV p s t nc so.length d],67,[(66,⟨false,some (0,0),u32s so,none⟩)],[],.int .i64 e,67,[],[]⟩
theorem dr_aaa1 (bs : List UInt8) (o1 o2 o3 o4 o5 o6 o7 o8 k : Nat) (b1 b2 b3 b4 b5 b6 b7 b8 : Bool) (ca : List Nat) (ra : List Rl) (sa : List Nat) (nc nr ns : Nat) : obs (evF Try.prog (baseF 3 (selSteps [(71,40,nccC 4 0 true bs,[67,68,66,65,65]),(72,40,nccC 4 o1 b1 bs,[67,68,66,65,71]),(73,40,nccC 4 o2 b2 bs,[67,68,66,65,72]),(74,42,mc_A (Value.int .i64 (IntKind.i64.wrap (↑(numV 4 0 bs)))) (Value.int .i64 (IntKind.i64.wrap (↑(numV 4 o1 bs)))) (Value.int .i64 (IntKind.i64.wrap (↑(numV 4 o2 bs)))) (Value.string ⟨⟨[]⟩⟩) (Value.slice none 0 0) (Value.slice none 0 0) o3 b3 bs nc o4 b4,[69,67,68,66,65,73,70,70,70]),(76,40,nccC 4 o4 b4 bs,[67,68,66,65,74]),(77,44,takC k o5 bs,[66,65,76]),(78,42,mr_A (Value.int .i64 (IntKind.i64.wrap (↑(numV 4 0 bs)))) (Value.int .i64 (IntKind.i64.wrap (↑(numV 4 o1 bs)))) (Value.int .i64 (IntKind.i64.wrap (↑(numV 4 o2 bs)))) (slO 71 nc) (Value.string ⟨⟨takV k o5 bs⟩⟩) (Value.slice none 0 0) o6 b6 bs nr o7 b7,[69,67,68,66,65,77,70,75,70]),(80,42,ms_A (Value.int .i64 (IntKind.i64.wrap (↑(numV 4 0 bs)))) (Value.int .i64 (IntKind.i64.wrap (↑(numV 4 o1 bs)))) (Value.int .i64 (IntKind.i64.wrap (↑(numV 4 o2 bs)))) (slO 71 nc) (Value.string ⟨⟨takV k o5 bs⟩⟩) (slO 72 nr) o7 b7 bs ns o8 b8,[69,67,68,66,65,78,70,75,79]),(82,47,lefC o8 bs,[66,65,80])]) noBase) noLoop 100 10 20 [Value.string ⟨⟨bs⟩⟩] ⟨64,[],[],0,[(0,true),(1,true),(2,true),(3,true),(4,true),(5,true)],0,True⟩) = some (Value.tuple { toList:=[Value.agg { toList:=[Value.int .i64 0,.int .i64 0,.int .i64 0,.slice none 0 0,.string (strOf' (getD' undef (64,{ rw:=true,op:=none,cells:=[Value.int .i64 0,.int .i64 0,.int .i64 0,.slice none 0 0,.string { data:=#[] : ByteArray },.slice none 0 0,.slice none 0 0],it:=none : Sy.Blk }).snd.cells (0+1+1+1+1))),.slice none 0 0,.slice none 0 0] },.int .i64 4] },(((((((((((((True∧True∧(rr (Value.int .i64 4)∧rr (Value.pointer (some ⟨67,0,none⟩))∧rr (Value.pointer (some ⟨68,0,none⟩))∧True)∧((tt∧tt∧tt∧tt∧tt∧True∧rr [Value.pointer (some ⟨66,0,none⟩)])∧(tt∧tt∧tt∧tt∧tt∧True∧rr [Value.bool true])∧(tt∧(okV (fun l => l.blt 69) 3 (rdV 67 0 bs 68) && true) = true∧tt∧tt∧tt∧True∧[Value.slice (some ⟨65,0,none⟩) (lenT bs) 9223372036854775873] = [rnV (lift 69 71 [67,68,66,65,65]) 3 (rdV 67 0 bs 68)])∧(tt∧(u8s bs).all (okV (fun l => l.blt 69) 3) = true∧tt∧tt∧tt∧True∧List.map (fun c => Value.int .u8 (↑c.toNat)) bs = List.map (rnV (lift 69 71 [67,68,66,65,65]) 3) (u8s bs))∧True)∧(tt∧bs.length - 0 ≤ lenT bs)∧True)∧True∧(rr (Value.int .i64 4)∧rr (Value.pointer (some ⟨67,0,none⟩))∧rr (Value.pointer (some ⟨68,0,none⟩))∧True)∧((tt∧tt∧tt∧tt∧tt∧True∧rr [Value.pointer (some ⟨66,0,none⟩)])∧(tt∧tt∧tt∧tt∧tt∧True∧[Value.bool (numIs 4 0 bs)] = [Value.bool b1])∧(tt∧(okV (fun l => l.blt 69) 3 (rdV 67 o1 bs 68) && true) = true∧tt∧tt∧tt∧True∧[rnV (lift 69 71 [67,68,66,65,65]) 3 (rdV 67 (numO 4 0 bs) bs 69)] = [rnV (lift 69 72 [67,68,66,65,71]) 3 (rdV 67 o1 bs 68)])∧(tt∧(u8s bs).all (okV (fun l => l.blt 69) 3) = true∧tt∧tt∧tt∧True∧List.map (fun c => Value.int .u8 (↑c.toNat)) bs = List.map (rnV (lift 69 72 [67,68,66,65,71]) 3) (u8s bs))∧True)∧(tt∧bs.length - o1 ≤ bs.length - numO 4 0 bs)∧True)∧True∧(rr (Value.int .i64 4)∧rr (Value.pointer (some ⟨67,0,none⟩))∧rr (Value.pointer (some ⟨68,0,none⟩))∧True)∧((tt∧tt∧tt∧tt∧tt∧True∧rr [Value.pointer (some ⟨66,0,none⟩)])∧(tt∧tt∧tt∧tt∧tt∧True∧[Value.bool (b1 && numIs 4 o1 bs)] = [Value.bool b2])∧(tt∧(okV (fun l => l.blt 69) 3 (rdV 67 o2 bs 68) && true) = true∧tt∧tt∧tt∧True∧[rnV (lift 69 72 [67,68,66,65,71]) 3 (rdV 67 (numO 4 o1 bs) bs 69)] = [rnV (lift 69 73 [67,68,66,65,72]) 3 (rdV 67 o2 bs 68)])∧(tt∧(u8s bs).all (okV (fun l => l.blt 69) 3) = true∧tt∧tt∧tt∧True∧List.map (fun c => Value.int .u8 (↑c.toNat)) bs = List.map (rnV (lift 69 73 [67,68,66,65,72]) 3) (u8s bs))∧True)∧(tt∧bs.length - o2 ≤ bs.length - numO 4 o1 bs)∧True)∧True∧(rr (Value.int .i64 4096)∧rr (Value.func (Fn.func 43) { toList:=[] } { toList:=[Value.pointer (some ⟨70,0,none⟩),.pointer (some ⟨69,0,none⟩)] })∧rr (Value.pointer (some ⟨69,0,none⟩))∧rr (Value.pointer (some ⟨68,0,none⟩))∧True)∧((tt∧tt∧tt∧tt∧tt∧True∧rr [Value.func (Fn.func 40) { toList:=[] } { toList:=[Value.pointer (some ⟨67,0,none⟩),.pointer (some ⟨68,0,none⟩)] }])∧(tt∧tt∧tt∧tt∧tt∧True∧rr [Value.pointer (some ⟨66,0,none⟩)])∧(tt∧tt∧tt∧tt∧tt∧True∧[Value.bool (b2 && numIs 4 o2 bs)] = [Value.bool b3])∧(tt∧(okV (fun l => l.blt 73) 3 (rdV 68 o3 bs 69) && true) = true∧tt∧tt∧tt∧True∧[rnV (lift 69 73 [67,68,66,65,72]) 3 (rdV 67 (numO 4 o2 bs) bs 69)] = [rnV (lift 73 74 [69,67,68,66,65,73,70,70,70]) 3 (rdV 68 o3 bs 69)])∧(tt∧(u8s bs).all (okV (fun l => l.blt 73) 3) = true∧tt∧tt∧tt∧True∧List.map (fun c => Value.int .u8 (↑c.toNat)) bs = List.map (rnV (lift 73 74 [69,67,68,66,65,73,70,70,70]) 3) (u8s bs))∧(tt∧tt∧tt∧tt∧tt∧True∧[Value.int .i64 (IntKind.i64.wrap (↑(numV 4 0 bs))),.int .i64 (IntKind.i64.wrap (↑(numV 4 o1 bs))),.int .i64 (IntKind.i64.wrap (↑(numV 4 o2 bs))),.slice none 0 0,.string { data:=#[] : ByteArray },.slice none 0 0,.slice none 0 0] = [Value.int .i64 (IntKind.i64.wrap (↑(numV 4 0 bs))),.int .i64 (IntKind.i64.wrap (↑(numV 4 o1 bs))),.int .i64 (IntKind.i64.wrap (↑(numV 4 o2 bs))),.slice none 0 0,.string ⟨⟨[]⟩⟩,.slice none 0 0,.slice none 0 0])∧True)∧(tt∧bs.length - o3 ≤ bs.length - numO 4 o2 bs)∧True)∧True∧(rr (Value.int .i64 4)∧rr (Value.pointer (some ⟨67,0,none⟩))∧rr (Value.pointer (some ⟨68,0,none⟩))∧True)∧((tt∧tt∧tt∧tt∧tt∧True∧rr [Value.pointer (some ⟨66,0,none⟩)])∧(tt∧tt∧tt∧tt∧tt∧True∧rr [Value.bool b4])∧(tt∧(okV (fun l => l.blt 69) 3 (rdV 67 o4 bs 68) && true) = true∧tt∧tt∧tt∧True∧[rnV (lift 73 74 [69,67,68,66,65,73,70,70,70]) 3 (rdV 68 o4 bs 73)] = [rnV (lift 69 76 [67,68,66,65,74]) 3 (rdV 67 o4 bs 68)])∧(tt∧(u8s bs).all (okV (fun l => l.blt 69) 3) = true∧tt∧tt∧tt∧True∧List.map (fun c => Value.int .u8 (↑c.toNat)) bs = List.map (rnV (lift 69 76 [67,68,66,65,74]) 3) (u8s bs))∧True)∧(tt∧bs.length - o4 ≤ bs.length - o4)∧True)∧True∧(rr (Value.pointer (some ⟨66,0,none⟩))∧Value.int .i64 (IntKind.i64.wrap (↑(numV 4 o4 bs))) = Value.int .i64 (↑k)∧True)∧((tt∧(okV (fun l => l.blt 67) 3 (rdV 65 o5 bs 66) && true) = true∧tt∧tt∧tt∧True∧[rnV (lift 69 76 [67,68,66,65,74]) 3 (rdV 67 (numO 4 o4 bs) bs 69)] = [rnV (lift 67 77 [66,65,76]) 3 (rdV 65 o5 bs 66)])∧(tt∧(u8s bs).all (okV (fun l => l.blt 67) 3) = true∧tt∧tt∧tt∧True∧List.map (fun c => Value.int .u8 (↑c.toNat)) bs = List.map (rnV (lift 67 77 [66,65,76]) 3) (u8s bs))∧True)∧(tt∧bs.length - o5 ≤ bs.length - numO 4 o4 bs)∧True)∧(b4 && numIs 4 o4 bs) = true)∧(b4 && numIs 4 o4 bs) = true)∧True∧(rr (Value.int .i64 256)∧rr (Value.func (Fn.func 45) { toList:=[] } { toList:=[Value.pointer (some ⟨69,0,none⟩),.pointer (some ⟨68,0,none⟩),.pointer (some ⟨70,0,none⟩)] })∧rr (Value.pointer (some ⟨69,0,none⟩))∧rr (Value.pointer (some ⟨68,0,none⟩))∧True)∧((tt∧tt∧tt∧tt∧tt∧True∧rr [Value.func (Fn.func 40) { toList:=[] } { toList:=[Value.pointer (some ⟨67,0,none⟩),.pointer (some ⟨68,0,none⟩)] }])∧(tt∧tt∧tt∧tt∧tt∧True∧rr [Value.pointer (some ⟨66,0,none⟩)])∧(tt∧tt∧tt∧tt∧tt∧True∧[Value.bool (takIs k o5 bs)] = [Value.bool b6])∧(tt∧(okV (fun l => l.blt 73) 3 (rdV 68 o6 bs 69) && true) = true∧tt∧tt∧tt∧True∧[rnV (lift 67 77 [66,65,76]) 3 (rdV 65 (takO k o5 bs) bs 67)] = [rnV (lift 73 78 [69,67,68,66,65,77,70,75,70]) 3 (rdV 68 o6 bs 69)])∧(tt∧(u8s bs).all (okV (fun l => l.blt 73) 3) = true∧tt∧tt∧tt∧True∧List.map (fun c => Value.int .u8 (↑c.toNat)) bs = List.map (rnV (lift 73 78 [69,67,68,66,65,77,70,75,70]) 3) (u8s bs))∧(tt∧(okV (fun l => l.blt 73) 3 (slO 71 nc) && true) = true∧tt∧tt∧tt∧True∧[Value.int .i64 (IntKind.i64.wrap (↑(numV 4 0 bs))),.int .i64 (IntKind.i64.wrap (↑(numV 4 o1 bs))),.int .i64 (IntKind.i64.wrap (↑(numV 4 o2 bs))),rnV (lift 73 74 [69,67,68,66,65,73,70,70,70]) 3 (slO 74 nc),.string ⟨⟨takV k o5 bs⟩⟩,.slice none 0 0,.slice none 0 0] = [Value.int .i64 (IntKind.i64.wrap (↑(numV 4 0 bs))),.int .i64 (IntKind.i64.wrap (↑(numV 4 o1 bs))),.int .i64 (IntKind.i64.wrap (↑(numV 4 o2 bs))),rnV (lift 73 78 [69,67,68,66,65,77,70,75,70]) 3 (slO 71 nc),.string ⟨⟨takV k o5 bs⟩⟩,.slice none 0 0,.slice none 0 0])∧True)∧(tt∧bs.length - o6 ≤ bs.length - takO k o5 bs)∧True)∧True∧(rr (Value.int .i64 4)∧rr (Value.func (Fn.func 46) { toList:=[] } { toList:=[Value.pointer (some ⟨70,0,none⟩),.pointer (some ⟨69,0,none⟩)] })∧rr (Value.pointer (some ⟨69,0,none⟩))∧rr (Value.pointer (some ⟨68,0,none⟩))∧True)∧((tt∧tt∧tt∧tt∧tt∧True∧rr [Value.func (Fn.func 40) { toList:=[] } { toList:=[Value.pointer (some ⟨67,0,none⟩),.pointer (some ⟨68,0,none⟩)] }])∧(tt∧tt∧tt∧tt∧tt∧True∧rr [Value.pointer (some ⟨66,0,none⟩)])∧(tt∧tt∧tt∧tt∧tt∧True∧rr [Value.bool b7])∧(tt∧(okV (fun l => l.blt 73) 3 (rdV 68 o7 bs 69) && true) = true∧tt∧tt∧tt∧True∧[rnV (lift 73 78 [69,67,68,66,65,77,70,75,70]) 3 (rdV 68 o7 bs 73)] = [rnV (lift 73 80 [69,67,68,66,65,78,70,75,79]) 3 (rdV 68 o7 bs 69)])∧(tt∧(u8s bs).all (okV (fun l => l.blt 73) 3) = true∧tt∧tt∧tt∧True∧List.map (fun c => Value.int .u8 (↑c.toNat)) bs = List.map (rnV (lift 73 80 [69,67,68,66,65,78,70,75,79]) 3) (u8s bs))∧(tt∧(okV (fun l => l.blt 73) 3 (slO 71 nc) && (okV (fun l => l.blt 73) 3 (slO 72 nr) && true)) = true∧tt∧tt∧tt∧True∧[Value.int .i64 (IntKind.i64.wrap (↑(numV 4 0 bs))),.int .i64 (IntKind.i64.wrap (↑(numV 4 o1 bs))),.int .i64 (IntKind.i64.wrap (↑(numV 4 o2 bs))),rnV (lift 73 78 [69,67,68,66,65,77,70,75,70]) 3 (slO 71 nc),.string ⟨⟨takV k o5 bs⟩⟩,rnV (lift 73 78 [69,67,68,66,65,77,70,75,70]) 3 (slO 74 nr),.slice none 0 0] = [Value.int .i64 (IntKind.i64.wrap (↑(numV 4 0 bs))),.int .i64 (IntKind.i64.wrap (↑(numV 4 o1 bs))),.int .i64 (IntKind.i64.wrap (↑(numV 4 o2 bs))),rnV (lift 73 80 [69,67,68,66,65,78,70,75,79]) 3 (slO 71 nc),.string ⟨⟨takV k o5 bs⟩⟩,rnV (lift 73 80 [69,67,68,66,65,78,70,75,79]) 3 (slO 72 nr),.slice none 0 0])∧True)∧(tt∧bs.length - o7 ≤ bs.length - o7)∧True)∧(!b8) = true)∧(!b8) = true)∧(!b8) = true)∧(!b8) = true):=by kernel_rfl
theorem dr_aaa2 (bs : List UInt8) (o1 o2 o3 o4 o5 o6 o7 o8 k : Nat) (b1 b2 b3 b4 b5 b6 b7 b8 : Bool) (ca : List Nat) (ra : List Rl) (sa : List Nat) (nc nr ns : Nat) : obs (evF Try.prog (baseF 3 (selSteps [(71,40,nccC 4 0 true bs,[67,68,66,65,65]),(72,40,nccC 4 o1 b1 bs,[67,68,66,65,71]),(73,40,nccC 4 o2 b2 bs,[67,68,66,65,72]),(74,42,mc_A (Value.int .i64 (IntKind.i64.wrap (↑(numV 4 0 bs)))) (Value.int .i64 (IntKind.i64.wrap (↑(numV 4 o1 bs)))) (Value.int .i64 (IntKind.i64.wrap (↑(numV 4 o2 bs)))) (Value.string ⟨⟨[]⟩⟩) (Value.slice none 0 0) (Value.slice none 0 0) o3 b3 bs nc o4 b4,[69,67,68,66,65,73,70,70,70]),(76,40,nccC 4 o4 b4 bs,[67,68,66,65,74]),(77,44,takC k o5 bs,[66,65,76]),(78,42,mr_A (Value.int .i64 (IntKind.i64.wrap (↑(numV 4 0 bs)))) (Value.int .i64 (IntKind.i64.wrap (↑(numV 4 o1 bs)))) (Value.int .i64 (IntKind.i64.wrap (↑(numV 4 o2 bs)))) (slO 71 nc) (Value.string ⟨⟨takV k o5 bs⟩⟩) (Value.slice none 0 0) o6 b6 bs nr o7 b7,[69,67,68,66,65,77,70,75,70]),(80,42,ms_A (Value.int .i64 (IntKind.i64.wrap (↑(numV 4 0 bs)))) (Value.int .i64 (IntKind.i64.wrap (↑(numV 4 o1 bs)))) (Value.int .i64 (IntKind.i64.wrap (↑(numV 4 o2 bs)))) (slO 71 nc) (Value.string ⟨⟨takV k o5 bs⟩⟩) (slO 72 nr) o7 b7 bs ns o8 b8,[69,67,68,66,65,78,70,75,79]),(82,47,lefC o8 bs,[66,65,80])]) noBase) noLoop 100 10 20 [Value.string ⟨⟨bs⟩⟩] ⟨64,[],[],0,[(0,true),(1,true),(2,false),(3,false),(4,false),(5,false),(6,true),(7,true),(8,true),(9,true)],0,True⟩) = some (Value.tuple { toList:=[Value.agg { toList:=[Value.int .i64 0,.int .i64 0,.int .i64 0,.slice none 0 0,.string (strOf' (getD' undef (64,{ rw:=true,op:=none,cells:=[Value.int .i64 0,.int .i64 0,.int .i64 0,.slice none 0 0,.string { data:=#[] : ByteArray },.slice none 0 0,.slice none 0 0],it:=none : Sy.Blk }).snd.cells (0+1+1+1+1))),.slice none 0 0,.slice none 0 0] },.int .i64 4] },((((((((((((((((((True∧True∧(rr (Value.int .i64 4)∧rr (Value.pointer (some ⟨67,0,none⟩))∧rr (Value.pointer (some ⟨68,0,none⟩))∧True)∧((tt∧tt∧tt∧tt∧tt∧True∧rr [Value.pointer (some ⟨66,0,none⟩)])∧(tt∧tt∧tt∧tt∧tt∧True∧rr [Value.bool true])∧(tt∧(okV (fun l => l.blt 69) 3 (rdV 67 0 bs 68) && true) = true∧tt∧tt∧tt∧True∧[Value.slice (some ⟨65,0,none⟩) (lenT bs) 9223372036854775873] = [rnV (lift 69 71 [67,68,66,65,65]) 3 (rdV 67 0 bs 68)])∧(tt∧(u8s bs).all (okV (fun l => l.blt 69) 3) = true∧tt∧tt∧tt∧True∧List.map (fun c => Value.int .u8 (↑c.toNat)) bs = List.map (rnV (lift 69 71 [67,68,66,65,65]) 3) (u8s bs))∧True)∧(tt∧bs.length - 0 ≤ lenT bs)∧True)∧True∧(rr (Value.int .i64 4)∧rr (Value.pointer (some ⟨67,0,none⟩))∧rr (Value.pointer (some ⟨68,0,none⟩))∧True)∧((tt∧tt∧tt∧tt∧tt∧True∧rr [Value.pointer (some ⟨66,0,none⟩)])∧(tt∧tt∧tt∧tt∧tt∧True∧[Value.bool (numIs 4 0 bs)] = [Value.bool b1])∧(tt∧(okV (fun l => l.blt 69) 3 (rdV 67 o1 bs 68) && true) = true∧tt∧tt∧tt∧True∧[rnV (lift 69 71 [67,68,66,65,65]) 3 (rdV 67 (numO 4 0 bs) bs 69)] = [rnV (lift 69 72 [67,68,66,65,71]) 3 (rdV 67 o1 bs 68)])∧(tt∧(u8s bs).all (okV (fun l => l.blt 69) 3) = true∧tt∧tt∧tt∧True∧List.map (fun c => Value.int .u8 (↑c.toNat)) bs = List.map (rnV (lift 69 72 [67,68,66,65,71]) 3) (u8s bs))∧True)∧(tt∧bs.length - o1 ≤ bs.length - numO 4 0 bs)∧True)∧True∧(rr (Value.int .i64 4)∧rr (Value.pointer (some ⟨67,0,none⟩))∧rr (Value.pointer (some ⟨68,0,none⟩))∧True)∧((tt∧tt∧tt∧tt∧tt∧True∧rr [Value.pointer (some ⟨66,0,none⟩)])∧(tt∧tt∧tt∧tt∧tt∧True∧[Value.bool (b1 && numIs 4 o1 bs)] = [Value.bool b2])∧(tt∧(okV (fun l => l.blt 69) 3 (rdV 67 o2 bs 68) && true) = true∧tt∧tt∧tt∧True∧[rnV (lift 69 72 [67,68,66,65,71]) 3 (rdV 67 (numO 4 o1 bs) bs 69)] = [rnV (lift 69 73 [67,68,66,65,72]) 3 (rdV 67 o2 bs 68)])∧(tt∧(u8s bs).all (okV (fun l => l.blt 69) 3) = true∧tt∧tt∧tt∧True∧List.map (fun c => Value.int .u8 (↑c.toNat)) bs = List.map (rnV (lift 69 73 [67,68,66,65,72]) 3) (u8s bs))∧True)∧(tt∧bs.length - o2 ≤ bs.length - numO 4 o1 bs)∧True)∧True∧(rr (Value.int .i64 4096)∧rr (Value.func (Fn.func 43) { toList:=[] } { toList:=[Value.pointer (some ⟨70,0,none⟩),.pointer (some ⟨69,0,none⟩)] })∧rr (Value.pointer (some ⟨69,0,none⟩))∧rr (Value.pointer (some ⟨68,0,none⟩))∧True)∧((tt∧tt∧tt∧tt∧tt∧True∧rr [Value.func (Fn.func 40) { toList:=[] } { toList:=[Value.pointer (some ⟨67,0,none⟩),.pointer (some ⟨68,0,none⟩)] }])∧(tt∧tt∧tt∧tt∧tt∧True∧rr [Value.pointer (some ⟨66,0,none⟩)])∧(tt∧tt∧tt∧tt∧tt∧True∧[Value.bool (b2 && numIs 4 o2 bs)] = [Value.bool b3])∧(tt∧(okV (fun l => l.blt 73) 3 (rdV 68 o3 bs 69) && true) = true∧tt∧tt∧tt∧True∧[rnV (lift 69 73 [67,68,66,65,72]) 3 (rdV 67 (numO 4 o2 bs) bs 69)] = [rnV (lift 73 74 [69,67,68,66,65,73,70,70,70]) 3 (rdV 68 o3 bs 69)])∧(tt∧(u8s bs).all (okV (fun l => l.blt 73) 3) = true∧tt∧tt∧tt∧True∧List.map (fun c => Value.int .u8 (↑c.toNat)) bs = List.map (rnV (lift 73 74 [69,67,68,66,65,73,70,70,70]) 3) (u8s bs))∧(tt∧tt∧tt∧tt∧tt∧True∧[Value.int .i64 (IntKind.i64.wrap (↑(numV 4 0 bs))),.int .i64 (IntKind.i64.wrap (↑(numV 4 o1 bs))),.int .i64 (IntKind.i64.wrap (↑(numV 4 o2 bs))),.slice none 0 0,.string { data:=#[] : ByteArray },.slice none 0 0,.slice none 0 0] = [Value.int .i64 (IntKind.i64.wrap (↑(numV 4 0 bs))),.int .i64 (IntKind.i64.wrap (↑(numV 4 o1 bs))),.int .i64 (IntKind.i64.wrap (↑(numV 4 o2 bs))),.slice none 0 0,.string ⟨⟨[]⟩⟩,.slice none 0 0,.slice none 0 0])∧True)∧(tt∧bs.length - o3 ≤ bs.length - numO 4 o2 bs)∧True)∧True∧(rr (Value.int .i64 4)∧rr (Value.pointer (some ⟨67,0,none⟩))∧rr (Value.pointer (some ⟨68,0,none⟩))∧True)∧((tt∧tt∧tt∧tt∧tt∧True∧rr [Value.pointer (some ⟨66,0,none⟩)])∧(tt∧tt∧tt∧tt∧tt∧True∧rr [Value.bool b4])∧(tt∧(okV (fun l => l.blt 69) 3 (rdV 67 o4 bs 68) && true) = true∧tt∧tt∧tt∧True∧[rnV (lift 73 74 [69,67,68,66,65,73,70,70,70]) 3 (rdV 68 o4 bs 73)] = [rnV (lift 69 76 [67,68,66,65,74]) 3 (rdV 67 o4 bs 68)])∧(tt∧(u8s bs).all (okV (fun l => l.blt 69) 3) = true∧tt∧tt∧tt∧True∧List.map (fun c => Value.int .u8 (↑c.toNat)) bs = List.map (rnV (lift 69 76 [67,68,66,65,74]) 3) (u8s bs))∧True)∧(tt∧bs.length - o4 ≤ bs.length - o4)∧True)∧True∧(rr (Value.pointer (some ⟨66,0,none⟩))∧Value.int .i64 (IntKind.i64.wrap (↑(numV 4 o4 bs))) = Value.int .i64 (↑k)∧True)∧((tt∧(okV (fun l => l.blt 67) 3 (rdV 65 o5 bs 66) && true) = true∧tt∧tt∧tt∧True∧[rnV (lift 69 76 [67,68,66,65,74]) 3 (rdV 67 (numO 4 o4 bs) bs 69)] = [rnV (lift 67 77 [66,65,76]) 3 (rdV 65 o5 bs 66)])∧(tt∧(u8s bs).all (okV (fun l => l.blt 67) 3) = true∧tt∧tt∧tt∧True∧List.map (fun c => Value.int .u8 (↑c.toNat)) bs = List.map (rnV (lift 67 77 [66,65,76]) 3) (u8s bs))∧True)∧(tt∧bs.length - o5 ≤ bs.length - numO 4 o4 bs)∧True)∧(b4 && numIs 4 o4 bs) = true)∧(b4 && numIs 4 o4 bs) = true)∧True∧(rr (Value.int .i64 256)∧rr (Value.func (Fn.func 45) { toList:=[] } { toList:=[Value.pointer (some ⟨69,0,none⟩),.pointer (some ⟨68,0,none⟩),.pointer (some ⟨70,0,none⟩)] })∧rr (Value.pointer (some ⟨69,0,none⟩))∧rr (Value.pointer (some ⟨68,0,none⟩))∧True)∧((tt∧tt∧tt∧tt∧tt∧True∧rr [Value.func (Fn.func 40) { toList:=[] } { toList:=[Value.pointer (some ⟨67,0,none⟩),.pointer (some ⟨68,0,none⟩)] }])∧(tt∧tt∧tt∧tt∧tt∧True∧rr [Value.pointer (some ⟨66,0,none⟩)])∧(tt∧tt∧tt∧tt∧tt∧True∧[Value.bool (takIs k o5 bs)] = [Value.bool b6])∧(tt∧(okV (fun l => l.blt 73) 3 (rdV 68 o6 bs 69) && true) = true∧tt∧tt∧tt∧True∧[rnV (lift 67 77 [66,65,76]) 3 (rdV 65 (takO k o5 bs) bs 67)] = [rnV (lift 73 78 [69,67,68,66,65,77,70,75,70]) 3 (rdV 68 o6 bs 69)])∧(tt∧(u8s bs).all (okV (fun l => l.blt 73) 3) = true∧tt∧tt∧tt∧True∧List.map (fun c => Value.int .u8 (↑c.toNat)) bs = List.map (rnV (lift 73 78 [69,67,68,66,65,77,70,75,70]) 3) (u8s bs))∧(tt∧(okV (fun l => l.blt 73) 3 (slO 71 nc) && true) = true∧tt∧tt∧tt∧True∧[Value.int .i64 (IntKind.i64.wrap (↑(numV 4 0 bs))),.int .i64 (IntKind.i64.wrap (↑(numV 4 o1 bs))),.int .i64 (IntKind.i64.wrap (↑(numV 4 o2 bs))),rnV (lift 73 74 [69,67,68,66,65,73,70,70,70]) 3 (slO 74 nc),.string ⟨⟨takV k o5 bs⟩⟩,.slice none 0 0,.slice none 0 0] = [Value.int .i64 (IntKind.i64.wrap (↑(numV 4 0 bs))),.int .i64 (IntKind.i64.wrap (↑(numV 4 o1 bs))),.int .i64 (IntKind.i64.wrap (↑(numV 4 o2 bs))),rnV (lift 73 78 [69,67,68,66,65,77,70,75,70]) 3 (slO 71 nc),.string ⟨⟨takV k o5 bs⟩⟩,.slice none 0 0,.slice none 0 0])∧True)∧(tt∧bs.length - o6 ≤ bs.length - takO k o5 bs)∧True)∧True∧(rr (Value.int .i64 4)∧rr (Value.func (Fn.func 46) { toList:=[] } { toList:=[Value.pointer (some ⟨70,0,none⟩),.pointer (some ⟨69,0,none⟩)] })∧rr (Value.pointer (some ⟨69,0,none⟩))∧rr (Value.pointer (some ⟨68,0,none⟩))∧True)∧((tt∧tt∧tt∧tt∧tt∧True∧rr [Value.func (Fn.func 40) { toList:=[] } { toList:=[Value.pointer (some ⟨67,0,none⟩),.pointer (some ⟨68,0,none⟩)] }])∧(tt∧tt∧tt∧tt∧tt∧True∧rr [Value.pointer (some ⟨66,0,none⟩)])∧(tt∧tt∧tt∧tt∧tt∧True∧rr [Value.bool b7])∧(tt∧(okV (fun l => l.blt 73) 3 (rdV 68 o7 bs 69) && true) = true∧tt∧tt∧tt∧True∧[rnV (lift 73 78 [69,67,68,66,65,77,70,75,70]) 3 (rdV 68 o7 bs 73)] = [rnV (lift 73 80 [69,67,68,66,65,78,70,75,79]) 3 (rdV 68 o7 bs 69)])∧(tt∧(u8s bs).all (okV (fun l => l.blt 73) 3) = true∧tt∧tt∧tt∧True∧List.map (fun c => Value.int .u8 (↑c.toNat)) bs = List.map (rnV (lift 73 80 [69,67,68,66,65,78,70,75,79]) 3) (u8s bs))∧(tt∧(okV (fun l => l.blt 73) 3 (slO 71 nc) && (okV (fun l => l.blt 73) 3 (slO 72 nr) && true)) = true∧tt∧tt∧tt∧True∧[Value.int .i64 (IntKind.i64.wrap (↑(numV 4 0 bs))),.int .i64 (IntKind.i64.wrap (↑(numV 4 o1 bs))),.int .i64 (IntKind.i64.wrap (↑(numV 4 o2 bs))),rnV (lift 73 78 [69,67,68,66,65,77,70,75,70]) 3 (slO 71 nc),.string ⟨⟨takV k o5 bs⟩⟩,rnV (lift 73 78 [69,67,68,66,65,77,70,75,70]) 3 (slO 74 nr),.slice none 0 0] = [Value.int .i64 (IntKind.i64.wrap (↑(numV 4 0 bs))),.int .i64 (IntKind.i64.wrap (↑(numV 4 o1 bs))),.int .i64 (IntKind.i64.wrap (↑(numV 4 o2 bs))),rnV (lift 73 80 [69,67,68,66,65,78,70,75,79]) 3 (slO 71 nc),.string ⟨⟨takV k o5 bs⟩⟩,rnV (lift 73 80 [69,67,68,66,65,78,70,75,79]) 3 (slO 72 nr),.slice none 0 0])∧True)∧(tt∧bs.length - o7 ≤ bs.length - o7)∧True)∧(!b8) = false)∧(!b8) = false)∧True∧(rr (Value.pointer (some ⟨66,0,none⟩))∧True)∧((tt∧(okV (fun l => l.blt 67) 3 (rdV 65 o8 bs 66) && true) = true∧tt∧tt∧tt∧True∧[rnV (lift 73 80 [69,67,68,66,65,78,70,75,79]) 3 (rdV 68 o8 bs 73)] = [rnV (lift 67 82 [66,65,80]) 3 (rdV 65 o8 bs 66)])∧(tt∧(u8s bs).all (okV (fun l => l.blt 67) 3) = true∧tt∧tt∧tt∧True∧List.map (fun c => Value.int .u8 (↑c.toNat)) bs = List.map (rnV (lift 67 82 [66,65,80]) 3) (u8s bs))∧True)∧(tt∧bs.length - o8 ≤ bs.length - o8)∧True)∧(!b8) = false)∧(!b8) = false)∧((↑(bs.length - o8):Int) != (0:Int)) = true)∧((↑(bs.length - o8):Int) != (0:Int)) = true)∧((↑(bs.length - o8):Int) != (0:Int)) = true)∧((↑(bs.length - o8):Int) != (0:Int)) = true):=by kernel_rfl
theorem dr_ono4 (bs : List UInt8) (o1 o2 o3 o4 o5 o6 o7 o8 k : Nat) (b1 b2 b3 b4 b5 b6 b7 b8 : Bool) (ca : List Nat) (ra : List Rl) (sa : List Nat) (nc nr ns : Nat) (e : Int) : evF Try.prog (baseF 3 (selSteps [(71,40,nccC 4 0 true bs,[67,68,66,65,65]),(72,40,nccC 4 o1 b1 bs,[67,68,66,65,71]),(73,40,nccC 4 o2 b2 bs,[67,68,66,65,72]),(74,42,mc_C (Value.int .i64 (IntKind.i64.wrap (↑(numV 4 0 bs)))) (Value.int .i64 (IntKind.i64.wrap (↑(numV 4 o1 bs)))) (Value.int .i64 (IntKind.i64.wrap (↑(numV 4 o2 bs)))) (Value.string ⟨⟨[]⟩⟩) (Value.slice none 0 0) (Value.slice none 0 0) o3 b3 bs ca o4 b4,[69,67,68,66,65,73,70,70,70]),(76,40,nccC 4 o4 b4 bs,[67,68,66,65,74]),(77,44,takC k o5 bs,[66,65,76]),(78,42,mnC mrG 256 o6 b6 bs,[69,67,68,66,65,77,70,75,70]),(79,42,ms_C (Value.int .i64 (IntKind.i64.wrap (↑(numV 4 0 bs)))) (Value.int .i64 (IntKind.i64.wrap (↑(numV 4 o1 bs)))) (Value.int .i64 (IntKind.i64.wrap (↑(numV 4 o2 bs)))) (Value.slice (some ⟨71,0,none⟩) ca.length (big+71)) (Value.string ⟨⟨takV k o5 bs⟩⟩) (Value.slice none 0 0) o7 b7 bs sa o8 b8,[69,67,68,66,65,78,70,75,70]),(81,47,lefC o8 bs,[66,65,79]),(81,14,ckNil (IntKind.i64.wrap (↑(numV 4 0 bs))) (IntKind.i64.wrap (↑(numV 4 o1 bs))) (IntKind.i64.wrap (↑(numV 4 o2 bs))) ca.length (takV k o5 bs) sa e,[75,70,80])]) noBase) noLoop 100 10 20 [Value.string ⟨⟨bs⟩⟩] ⟨64,[],[],0,[(0,true),(1,true),(2,false),(3,false),(4,false),(5,false),(6,false),(7,false),(8,false),(9,false),(10,false)],0,True⟩ = some (Value.tuple { toList:=[Value.agg ⟨[.int .i64 (IntKind.i64.wrap (↑(numV 4 0 bs))),.int .i64 (IntKind.i64.wrap (↑(numV 4 o1 bs))),.int .i64 (IntKind.i64.wrap (↑(numV 4 o2 bs))),.slice (some ⟨75,0,none⟩) ca.length 9223372036854775883,.string ⟨⟨takV k o5 bs⟩⟩,.slice none 0 0,.slice (some ⟨80,0,none⟩) sa.length 9223372036854775888]⟩,.int .i64 0] },{ n:=81,h:=[(68,⟨true,none,[Value.bool b8],none⟩),(70,⟨true,none,[Value.int .i64 (IntKind.i64.wrap (↑(numV 4 0 bs))),.int .i64 (IntKind.i64.wrap (↑(numV 4 o1 bs))),.int .i64 (IntKind.i64.wrap (↑(numV 4 o2 bs))),.slice (some ⟨75,0,none⟩) ca.length 9223372036854775883,.string ⟨⟨takV k o5 bs⟩⟩,.slice none 0 0,.slice (some ⟨80,0,none⟩) sa.length 9223372036854775888],none⟩),(80,⟨true,some (80,1),u32s sa,none⟩),(75,⟨true,some (75,1),u32s ca,none⟩),(65,⟨true,some (65,1),List.map (fun c => Value.int .u8 (↑c.toNat)) bs,none⟩),(64,⟨true,none,[Value.int .i64 (IntKind.i64.wrap (↑(numV 4 0 bs))),.int .i64 (IntKind.i64.wrap (↑(numV 4 o1 bs))),.int .i64 (IntKind.i64.wrap (↑(numV 4 o2 bs))),.slice (some ⟨75,0,none⟩) ca.length 9223372036854775883,.string ⟨⟨takV k o5 bs⟩⟩,.slice none 0 0,.slice (some ⟨80,0,none⟩) sa.length 9223372036854775888],none⟩),(69,{ rw:=true,op:=none,cells:=[Value.func (Fn.func 40) { toList:=[] } { toList:=[Value.pointer (some ⟨67,0,none⟩),.pointer (some ⟨68,0,none⟩)] }],it:=none : Sy.Blk }),(67,⟨true,none,[Value.pointer (some ⟨66,0,none⟩)],none⟩)],lo:=[(79,bs.length - o8),(80,sa.length),(78,bs.length - numO 4 o6 bs),(77,bs.length - takO k o5 bs),(76,bs.length - numO 4 o4 bs),(74,bs.length - o4),(75,ca.length),(73,bs.length - numO 4 o2 bs),(72,bs.length - numO 4 o1 bs),(71,bs.length - numO 4 0 bs),(65,lenT bs)],esc:=0,T:=[],k:=11,O:=((((((((((((((((((((True∧True∧(rr (Value.int .i64 4)∧rr (Value.pointer (some ⟨67,0,none⟩))∧rr (Value.pointer (some ⟨68,0,none⟩))∧True)∧((tt∧tt∧tt∧tt∧tt∧True∧rr [Value.pointer (some ⟨66,0,none⟩)])∧(tt∧tt∧tt∧tt∧tt∧True∧rr [Value.bool true])∧(tt∧(okV (fun l => l.blt 69) 3 (rdV 67 0 bs 68) && true) = true∧tt∧tt∧tt∧True∧[Value.slice (some ⟨65,0,none⟩) (lenT bs) 9223372036854775873] = [rnV (lift 69 71 [67,68,66,65,65]) 3 (rdV 67 0 bs 68)])∧(tt∧(u8s bs).all (okV (fun l => l.blt 69) 3) = true∧tt∧tt∧tt∧True∧List.map (fun c => Value.int .u8 (↑c.toNat)) bs = List.map (rnV (lift 69 71 [67,68,66,65,65]) 3) (u8s bs))∧True)∧(tt∧bs.length - 0 ≤ lenT bs)∧True)∧True∧(rr (Value.int .i64 4)∧rr (Value.pointer (some ⟨67,0,none⟩))∧rr (Value.pointer (some ⟨68,0,none⟩))∧True)∧((tt∧tt∧tt∧tt∧tt∧True∧rr [Value.pointer (some ⟨66,0,none⟩)])∧(tt∧tt∧tt∧tt∧tt∧True∧[Value.bool (numIs 4 0 bs)] = [Value.bool b1])∧(tt∧(okV (fun l => l.blt 69) 3 (rdV 67 o1 bs 68) && true) = true∧tt∧tt∧tt∧True∧[rnV (lift 69 71 [67,68,66,65,65]) 3 (rdV 67 (numO 4 0 bs) bs 69)] = [rnV (lift 69 72 [67,68,66,65,71]) 3 (rdV 67 o1 bs 68)])∧(tt∧(u8s bs).all (okV (fun l => l.blt 69) 3) = true∧tt∧tt∧tt∧True∧List.map (fun c => Value.int .u8 (↑c.toNat)) bs = List.map (rnV (lift 69 72 [67,68,66,65,71]) 3) (u8s bs))∧True)∧(tt∧bs.length - o1 ≤ bs.length - numO 4 0 bs)∧True)∧True∧(rr (Value.int .i64 4)∧rr (Value.pointer (some ⟨67,0,none⟩))∧rr (Value.pointer (some ⟨68,0,none⟩))∧True)∧((tt∧tt∧tt∧tt∧tt∧True∧rr [Value.pointer (some ⟨66,0,none⟩)])∧(tt∧tt∧tt∧tt∧tt∧True∧[Value.bool (b1 && numIs 4 o1 bs)] = [Value.bool b2])∧(tt∧(okV (fun l => l.blt 69) 3 (rdV 67 o2 bs 68) && true) = true∧tt∧tt∧tt∧True∧[rnV (lift 69 72 [67,68,66,65,71]) 3 (rdV 67 (numO 4 o1 bs) bs 69)] = [rnV (lift 69 73 [67,68,66,65,72]) 3 (rdV 67 o2 bs 68)])∧(tt∧(u8s bs).all (okV (fun l => l.blt 69) 3) = true∧tt∧tt∧tt∧True∧List.map (fun c => Value.int .u8 (↑c.toNat)) bs = List.map (rnV (lift 69 73 [67,68,66,65,72]) 3) (u8s bs))∧True)∧(tt∧bs.length - o2 ≤ bs.length - numO 4 o1 bs)∧True)∧True∧(rr (Value.int .i64 4096)∧rr (Value.func (Fn.func 43) { toList:=[] } { toList:=[Value.pointer (some ⟨70,0,none⟩),.pointer (some ⟨69,0,none⟩)] })∧rr (Value.pointer (some ⟨69,0,none⟩))∧rr (Value.pointer (some ⟨68,0,none⟩))∧True)∧((tt∧tt∧tt∧tt∧tt∧True∧rr [Value.func (Fn.func 40) { toList:=[] } { toList:=[Value.pointer (some ⟨67,0,none⟩),.pointer (some ⟨68,0,none⟩)] }])∧(tt∧tt∧tt∧tt∧tt∧True∧rr [Value.pointer (some ⟨66,0,none⟩)])∧(tt∧tt∧tt∧tt∧tt∧True∧[Value.bool (b2 && numIs 4 o2 bs)] = [Value.bool b3])∧(tt∧(okV (fun l => l.blt 73) 3 (rdV 68 o3 bs 69) && true) = true∧tt∧tt∧tt∧True∧[rnV (lift 69 73 [67,68,66,65,72]) 3 (rdV 67 (numO 4 o2 bs) bs 69)] = [rnV (lift 73 74 [69,67,68,66,65,73,70,70,70]) 3 (rdV 68 o3 bs 69)])∧(tt∧(u8s bs).all (okV (fun l => l.blt 73) 3) = true∧tt∧tt∧tt∧True∧List.map (fun c => Value.int .u8 (↑c.toNat)) bs = List.map (rnV (lift 73 74 [69,67,68,66,65,73,70,70,70]) 3) (u8s bs))∧(tt∧tt∧tt∧tt∧tt∧True∧[Value.int .i64 (IntKind.i64.wrap (↑(numV 4 0 bs))),.int .i64 (IntKind.i64.wrap (↑(numV 4 o1 bs))),.int .i64 (IntKind.i64.wrap (↑(numV 4 o2 bs))),.slice none 0 0,.string { data:=#[] : ByteArray },.slice none 0 0,.slice none 0 0] = [Value.int .i64 (IntKind.i64.wrap (↑(numV 4 0 bs))),.int .i64 (IntKind.i64.wrap (↑(numV 4 o1 bs))),.int .i64 (IntKind.i64.wrap (↑(numV 4 o2 bs))),.slice none 0 0,.string ⟨⟨[]⟩⟩,.slice none 0 0,.slice none 0 0])∧True)∧(tt∧bs.length - o3 ≤ bs.length - numO 4 o2 bs)∧True)∧True∧(rr (Value.int .i64 4)∧rr (Value.pointer (some ⟨67,0,none⟩))∧rr (Value.pointer (some ⟨68,0,none⟩))∧True)∧((tt∧tt∧tt∧tt∧tt∧True∧rr [Value.pointer (some ⟨66,0,none⟩)])∧(tt∧tt∧tt∧tt∧tt∧True∧rr [Value.bool b4])∧(tt∧(okV (fun l => l.blt 69) 3 (rdV 67 o4 bs 68) && true) = true∧tt∧tt∧tt∧True∧[rnV (lift 73 74 [69,67,68,66,65,73,70,70,70]) 3 (rdV 68 o4 bs 73)] = [rnV (lift 69 76 [67,68,66,65,74]) 3 (rdV 67 o4 bs 68)])∧(tt∧(u8s bs).all (okV (fun l => l.blt 69) 3) = true∧tt∧tt∧tt∧True∧List.map (fun c => Value.int .u8 (↑c.toNat)) bs = List.map (rnV (lift 69 76 [67,68,66,65,74]) 3) (u8s bs))∧True)∧(tt∧bs.length - o4 ≤ bs.length - o4)∧True)∧True∧(rr (Value.pointer (some ⟨66,0,none⟩))∧Value.int .i64 (IntKind.i64.wrap (↑(numV 4 o4 bs))) = Value.int .i64 (↑k)∧True)∧((tt∧(okV (fun l => l.blt 67) 3 (rdV 65 o5 bs 66) && true) = true∧tt∧tt∧tt∧True∧[rnV (lift 69 76 [67,68,66,65,74]) 3 (rdV 67 (numO 4 o4 bs) bs 69)] = [rnV (lift 67 77 [66,65,76]) 3 (rdV 65 o5 bs 66)])∧(tt∧(u8s bs).all (okV (fun l => l.blt 67) 3) = true∧tt∧tt∧tt∧True∧List.map (fun c => Value.int .u8 (↑c.toNat)) bs = List.map (rnV (lift 67 77 [66,65,76]) 3) (u8s bs))∧True)∧(tt∧bs.length - o5 ≤ bs.length - numO 4 o4 bs)∧True)∧(b4 && numIs 4 o4 bs) = true)∧(b4 && numIs 4 o4 bs) = true)∧True∧(rr (Value.int .i64 256)∧rr (Value.func (Fn.func 45) { toList:=[] } { toList:=[Value.pointer (some ⟨69,0,none⟩),.pointer (some ⟨68,0,none⟩),.pointer (some ⟨70,0,none⟩)] })∧rr (Value.pointer (some ⟨69,0,none⟩))∧rr (Value.pointer (some ⟨68,0,none⟩))∧True)∧((tt∧tt∧tt∧tt∧tt∧True∧rr [Value.func (Fn.func 40) { toList:=[] } { toList:=[Value.pointer (some ⟨67,0,none⟩),.pointer (some ⟨68,0,none⟩)] }])∧(tt∧tt∧tt∧tt∧tt∧True∧rr [Value.pointer (some ⟨66,0,none⟩)])∧(tt∧tt∧tt∧tt∧tt∧True∧[Value.bool (takIs k o5 bs)] = [Value.bool b6])∧(tt∧(okV (fun l => l.blt 73) 3 (rdV 68 o6 bs 69) && true) = true∧tt∧tt∧tt∧True∧[rnV (lift 67 77 [66,65,76]) 3 (rdV 65 (takO k o5 bs) bs 67)] = [rnV (lift 73 78 [69,67,68,66,65,77,70,75,70]) 3 (rdV 68 o6 bs 69)])∧(tt∧(u8s bs).all (okV (fun l => l.blt 73) 3) = true∧tt∧tt∧tt∧True∧List.map (fun c => Value.int .u8 (↑c.toNat)) bs = List.map (rnV (lift 73 78 [69,67,68,66,65,77,70,75,70]) 3) (u8s bs))∧True)∧(tt∧bs.length - o6 ≤ bs.length - takO k o5 bs)∧True)∧True∧(rr (Value.int .i64 4)∧rr (Value.func (Fn.func 46) { toList:=[] } { toList:=[Value.pointer (some ⟨70,0,none⟩),.pointer (some ⟨69,0,none⟩)] })∧rr (Value.pointer (some ⟨69,0,none⟩))∧rr (Value.pointer (some ⟨68,0,none⟩))∧True)∧((tt∧tt∧tt∧tt∧tt∧True∧rr [Value.func (Fn.func 40) { toList:=[] } { toList:=[Value.pointer (some ⟨67,0,none⟩),.pointer (some ⟨68,0,none⟩)] }])∧(tt∧tt∧tt∧tt∧tt∧True∧rr [Value.pointer (some ⟨66,0,none⟩)])∧(tt∧tt∧tt∧tt∧tt∧True∧[Value.bool (manyW 256 o6 b6 bs)] = [Value.bool b7])∧(tt∧(okV (fun l => l.blt 73) 3 (rdV 68 o7 bs 69) && true) = true∧tt∧tt∧tt∧True∧[rnV (lift 73 78 [69,67,68,66,65,77,70,75,70]) 3 (rdV 68 (numO 4 o6 bs) bs 73)] = [rnV (lift 73 79 [69,67,68,66,65,78,70,75,70]) 3 (rdV 68 o7 bs 69)])∧(tt∧(u8s bs).all (okV (fun l => l.blt 73) 3) = true∧tt∧tt∧tt∧True∧List.map (fun c => Value.int .u8 (↑c.toNat)) bs = List.map (rnV (lift 73 79 [69,67,68,66,65,78,70,75,70]) 3) (u8s bs))∧(tt∧tt∧tt∧tt∧tt∧True∧rr [Value.int .i64 (IntKind.i64.wrap (↑(numV 4 0 bs))),.int .i64 (IntKind.i64.wrap (↑(numV 4 o1 bs))),.int .i64 (IntKind.i64.wrap (↑(numV 4 o2 bs))),.slice (some ⟨75,0,none⟩) ca.length 9223372036854775883,.string ⟨⟨takV k o5 bs⟩⟩,.slice none 0 0,.slice none 0 0])∧True)∧(tt∧bs.length - o7 ≤ bs.length - numO 4 o6 bs)∧True)∧(!b8) = false)∧(!b8) = false)∧True∧(rr (Value.pointer (some ⟨66,0,none⟩))∧True)∧((tt∧(okV (fun l => l.blt 67) 3 (rdV 65 o8 bs 66) && true) = true∧tt∧tt∧tt∧True∧[rnV (lift 73 79 [69,67,68,66,65,78,70,75,70]) 3 (rdV 68 o8 bs 73)] = [rnV (lift 67 81 [66,65,79]) 3 (rdV 65 o8 bs 66)])∧(tt∧(u8s bs).all (okV (fun l => l.blt 67) 3) = true∧tt∧tt∧tt∧True∧List.map (fun c => Value.int .u8 (↑c.toNat)) bs = List.map (rnV (lift 67 81 [66,65,79]) 3) (u8s bs))∧True)∧(tt∧bs.length - o8 ≤ bs.length - o8)∧True)∧(!b8) = false)∧(!b8) = false)∧((↑(bs.length - o8):Int) != (0:Int)) = false)∧((↑(bs.length - o8):Int) != (0:Int)) = false)∧True∧(rr (Value.agg ⟨[.int .i64 (IntKind.i64.wrap (↑(numV 4 0 bs))),.int .i64 (IntKind.i64.wrap (↑(numV 4 o1 bs))),.int .i64 (IntKind.i64.wrap (↑(numV 4 o2 bs))),.slice (some ⟨75,0,none⟩) ca.length 9223372036854775883,.string ⟨⟨takV k o5 bs⟩⟩,.slice none 0 0,.slice (some ⟨80,0,none⟩) sa.length 9223372036854775888]⟩)∧True)∧((tt∧(u32s sa).all (okV (fun l => l.blt 67) 3) = true∧tt∧tt∧tt∧True∧u32s sa = List.map (rnV (lift 67 81 [75,70,80]) 3) (u32s sa))∧True)∧True)∧((↑(bs.length - o8):Int) != (0:Int)) = false)∧((↑(bs.length - o8):Int) != (0:Int)) = false)∧(e != (0:Int)) = false : St }):=by kernel_rfl
theorem dr_ooo4 (bs : List UInt8) (o1 o2 o3 o4 o5 o6 o7 o8 k : Nat) (b1 b2 b3 b4 b5 b6 b7 b8 : Bool) (ca : List Nat) (ra : List Rl) (sa : List Nat) (nc nr ns : Nat) (e : Int) : evF Try.prog (baseF 3 (selSteps [(71,40,nccC 4 0 true bs,[67,68,66,65,65]),(72,40,nccC 4 o1 b1 bs,[67,68,66,65,71]),(73,40,nccC 4 o2 b2 bs,[67,68,66,65,72]),(74,42,mc_C (Value.int .i64 (IntKind.i64.wrap (↑(numV 4 0 bs)))) (Value.int .i64 (IntKind.i64.wrap (↑(numV 4 o1 bs)))) (Value.int .i64 (IntKind.i64.wrap (↑(numV 4 o2 bs)))) (Value.string ⟨⟨[]⟩⟩) (Value.slice none 0 0) (Value.slice none 0 0) o3 b3 bs ca o4 b4,[69,67,68,66,65,73,70,70,70]),(76,40,nccC 4 o4 b4 bs,[67,68,66,65,74]),(77,44,takC k o5 bs,[66,65,76]),(78,42,mr_C (Value.int .i64 (IntKind.i64.wrap (↑(numV 4 0 bs)))) (Value.int .i64 (IntKind.i64.wrap (↑(numV 4 o1 bs)))) (Value.int .i64 (IntKind.i64.wrap (↑(numV 4 o2 bs)))) (Value.slice (some ⟨71,0,none⟩) ca.length (big+71)) (Value.string ⟨⟨takV k o5 bs⟩⟩) (Value.slice none 0 0) o6 b6 bs ra o7 b7,[69,67,68,66,65,77,70,75,70]),(80,42,ms_C (Value.int .i64 (IntKind.i64.wrap (↑(numV 4 0 bs)))) (Value.int .i64 (IntKind.i64.wrap (↑(numV 4 o1 bs)))) (Value.int .i64 (IntKind.i64.wrap (↑(numV 4 o2 bs)))) (Value.slice (some ⟨71,0,none⟩) ca.length (big+71)) (Value.string ⟨⟨takV k o5 bs⟩⟩) (Value.slice (some ⟨72,0,none⟩) ra.length (big+72)) o7 b7 bs sa o8 b8,[69,67,68,66,65,78,70,75,79]),(82,47,lefC o8 bs,[66,65,80]),(82,14,imD (IntKind.i64.wrap (↑(numV 4 0 bs))) (IntKind.i64.wrap (↑(numV 4 o1 bs))) (IntKind.i64.wrap (↑(numV 4 o2 bs))) ca.length (takV k o5 bs) ra sa (Value.int .i64 e),[75,79,81])]) noBase) noLoop 100 10 20 [Value.string ⟨⟨bs⟩⟩] ⟨64,[],[],0,[(0,true),(1,true),(2,false),(3,false),(4,false),(5,false),(6,false),(7,false),(8,false),(9,false),(10,false)],0,True⟩ = some (Value.tuple { toList:=[Value.agg ⟨[.int .i64 (IntKind.i64.wrap (↑(numV 4 0 bs))),.int .i64 (IntKind.i64.wrap (↑(numV 4 o1 bs))),.int .i64 (IntKind.i64.wrap (↑(numV 4 o2 bs))),.slice (some ⟨75,0,none⟩) ca.length 9223372036854775883,.string ⟨⟨takV k o5 bs⟩⟩,.slice (some ⟨79,0,none⟩) ra.length 9223372036854775887,.slice (some ⟨81,0,none⟩) sa.length 9223372036854775889]⟩,.int .i64 0] },{ n:=82,h:=[(68,⟨true,none,[Value.bool b8],none⟩),(70,⟨true,none,[Value.int .i64 (IntKind.i64.wrap (↑(numV 4 0 bs))),.int .i64 (IntKind.i64.wrap (↑(numV 4 o1 bs))),.int .i64 (IntKind.i64.wrap (↑(numV 4 o2 bs))),.slice (some ⟨75,0,none⟩) ca.length 9223372036854775883,.string ⟨⟨takV k o5 bs⟩⟩,.slice (some ⟨79,0,none⟩) ra.length 9223372036854775887,.slice (some ⟨81,0,none⟩) sa.length 9223372036854775889],none⟩),(81,⟨true,some (81,1),u32s sa,none⟩),(79,⟨true,some (79,6),rels ra,none⟩),(75,⟨true,some (75,1),u32s ca,none⟩),(65,⟨true,some (65,1),List.map (fun c => Value.int .u8 (↑c.toNat)) bs,none⟩),(64,⟨true,none,[Value.int .i64 (IntKind.i64.wrap (↑(numV 4 0 bs))),.int .i64 (IntKind.i64.wrap (↑(numV 4 o1 bs))),.int .i64 (IntKind.i64.wrap (↑(numV 4 o2 bs))),.slice (some ⟨75,0,none⟩) ca.length 9223372036854775883,.string ⟨⟨takV k o5 bs⟩⟩,.slice (some ⟨79,0,none⟩) ra.length 9223372036854775887,.slice (some ⟨81,0,none⟩) sa.length 9223372036854775889],none⟩),(69,{ rw:=true,op:=none,cells:=[Value.func (Fn.func 40) { toList:=[] } { toList:=[Value.pointer (some ⟨67,0,none⟩),.pointer (some ⟨68,0,none⟩)] }],it:=none : Sy.Blk }),(67,⟨true,none,[Value.pointer (some ⟨66,0,none⟩)],none⟩)],lo:=[(80,bs.length - o8),(81,sa.length),(78,bs.length - o7),(79,ra.length),(77,bs.length - takO k o5 bs),(76,bs.length - numO 4 o4 bs),(74,bs.length - o4),(75,ca.length),(73,bs.length - numO 4 o2 bs),(72,bs.length - numO 4 o1 bs),(71,bs.length - numO 4 0 bs),(65,lenT bs)],esc:=0,T:=[],k:=11,O:=((((((((((((((((((((True∧True∧(rr (Value.int .i64 4)∧rr (Value.pointer (some ⟨67,0,none⟩))∧rr (Value.pointer (some ⟨68,0,none⟩))∧True)∧((tt∧tt∧tt∧tt∧tt∧True∧rr [Value.pointer (some ⟨66,0,none⟩)])∧(tt∧tt∧tt∧tt∧tt∧True∧rr [Value.bool true])∧(tt∧(okV (fun l => l.blt 69) 3 (rdV 67 0 bs 68) && true) = true∧tt∧tt∧tt∧True∧[Value.slice (some ⟨65,0,none⟩) (lenT bs) 9223372036854775873] = [rnV (lift 69 71 [67,68,66,65,65]) 3 (rdV 67 0 bs 68)])∧(tt∧(u8s bs).all (okV (fun l => l.blt 69) 3) = true∧tt∧tt∧tt∧True∧List.map (fun c => Value.int .u8 (↑c.toNat)) bs = List.map (rnV (lift 69 71 [67,68,66,65,65]) 3) (u8s bs))∧True)∧(tt∧bs.length - 0 ≤ lenT bs)∧True)∧True∧(rr (Value.int .i64 4)∧rr (Value.pointer (some ⟨67,0,none⟩))∧rr (Value.pointer (some ⟨68,0,none⟩))∧True)∧((tt∧tt∧tt∧tt∧tt∧True∧rr [Value.pointer (some ⟨66,0,none⟩)])∧(tt∧tt∧tt∧tt∧tt∧True∧[Value.bool (numIs 4 0 bs)] = [Value.bool b1])∧(tt∧(okV (fun l => l.blt 69) 3 (rdV 67 o1 bs 68) && true) = true∧tt∧tt∧tt∧True∧[rnV (lift 69 71 [67,68,66,65,65]) 3 (rdV 67 (numO 4 0 bs) bs 69)] = [rnV (lift 69 72 [67,68,66,65,71]) 3 (rdV 67 o1 bs 68)])∧(tt∧(u8s bs).all (okV (fun l => l.blt 69) 3) = true∧tt∧tt∧tt∧True∧List.map (fun c => Value.int .u8 (↑c.toNat)) bs = List.map (rnV (lift 69 72 [67,68,66,65,71]) 3) (u8s bs))∧True)∧(tt∧bs.length - o1 ≤ bs.length - numO 4 0 bs)∧True)∧True∧(rr (Value.int .i64 4)∧rr (Value.pointer (some ⟨67,0,none⟩))∧rr (Value.pointer (some ⟨68,0,none⟩))∧True)∧((tt∧tt∧tt∧tt∧tt∧True∧rr [Value.pointer (some ⟨66,0,none⟩)])∧(tt∧tt∧tt∧tt∧tt∧True∧[Value.bool (b1 && numIs 4 o1 bs)] = [Value.bool b2])∧(tt∧(okV (fun l => l.blt 69) 3 (rdV 67 o2 bs 68) && true) = true∧tt∧tt∧tt∧True∧[rnV (lift 69 72 [67,68,66,65,71]) 3 (rdV 67 (numO 4 o1 bs) bs 69)] = [rnV (lift 69 73 [67,68,66,65,72]) 3 (rdV 67 o2 bs 68)])∧(tt∧(u8s bs).all (okV (fun l => l.blt 69) 3) = true∧tt∧tt∧tt∧True∧List.map (fun c => Value.int .u8 (↑c.toNat)) bs = List.map (rnV (lift 69 73 [67,68,66,65,72]) 3) (u8s bs))∧True)∧(tt∧bs.length - o2 ≤ bs.length - numO 4 o1 bs)∧True)∧True∧(rr (Value.int .i64 4096)∧rr (Value.func (Fn.func 43) { toList:=[] } { toList:=[Value.pointer (some ⟨70,0,none⟩),.pointer (some ⟨69,0,none⟩)] })∧rr (Value.pointer (some ⟨69,0,none⟩))∧rr (Value.pointer (some ⟨68,0,none⟩))∧True)∧((tt∧tt∧tt∧tt∧tt∧True∧rr [Value.func (Fn.func 40) { toList:=[] } { toList:=[Value.pointer (some ⟨67,0,none⟩),.pointer (some ⟨68,0,none⟩)] }])∧(tt∧tt∧tt∧tt∧tt∧True∧rr [Value.pointer (some ⟨66,0,none⟩)])∧(tt∧tt∧tt∧tt∧tt∧True∧[Value.bool (b2 && numIs 4 o2 bs)] = [Value.bool b3])∧(tt∧(okV (fun l => l.blt 73) 3 (rdV 68 o3 bs 69) && true) = true∧tt∧tt∧tt∧True∧[rnV (lift 69 73 [67,68,66,65,72]) 3 (rdV 67 (numO 4 o2 bs) bs 69)] = [rnV (lift 73 74 [69,67,68,66,65,73,70,70,70]) 3 (rdV 68 o3 bs 69)])∧(tt∧(u8s bs).all (okV (fun l => l.blt 73) 3) = true∧tt∧tt∧tt∧True∧List.map (fun c => Value.int .u8 (↑c.toNat)) bs = List.map (rnV (lift 73 74 [69,67,68,66,65,73,70,70,70]) 3) (u8s bs))∧(tt∧tt∧tt∧tt∧tt∧True∧[Value.int .i64 (IntKind.i64.wrap (↑(numV 4 0 bs))),.int .i64 (IntKind.i64.wrap (↑(numV 4 o1 bs))),.int .i64 (IntKind.i64.wrap (↑(numV 4 o2 bs))),.slice none 0 0,.string { data:=#[] : ByteArray },.slice none 0 0,.slice none 0 0] = [Value.int .i64 (IntKind.i64.wrap (↑(numV 4 0 bs))),.int .i64 (IntKind.i64.wrap (↑(numV 4 o1 bs))),.int .i64 (IntKind.i64.wrap (↑(numV 4 o2 bs))),.slice none 0 0,.string ⟨⟨[]⟩⟩,.slice none 0 0,.slice none 0 0])∧True)∧(tt∧bs.length - o3 ≤ bs.length - numO 4 o2 bs)∧True)∧True∧(rr (Value.int .i64 4)∧rr (Value.pointer (some ⟨67,0,none⟩))∧rr (Value.pointer (some ⟨68,0,none⟩))∧True)∧((tt∧tt∧tt∧tt∧tt∧True∧rr [Value.pointer (some ⟨66,0,none⟩)])∧(tt∧tt∧tt∧tt∧tt∧True∧rr [Value.bool b4])∧(tt∧(okV (fun l => l.blt 69) 3 (rdV 67 o4 bs 68) && true) = true∧tt∧tt∧tt∧True∧[rnV (lift 73 74 [69,67,68,66,65,73,70,70,70]) 3 (rdV 68 o4 bs 73)] = [rnV (lift 69 76 [67,68,66,65,74]) 3 (rdV 67 o4 bs 68)])∧(tt∧(u8s bs).all (okV (fun l => l.blt 69) 3) = true∧tt∧tt∧tt∧True∧List.map (fun c => Value.int .u8 (↑c.toNat)) bs = List.map (rnV (lift 69 76 [67,68,66,65,74]) 3) (u8s bs))∧True)∧(tt∧bs.length - o4 ≤ bs.length - o4)∧True)∧True∧(rr (Value.pointer (some ⟨66,0,none⟩))∧Value.int .i64 (IntKind.i64.wrap (↑(numV 4 o4 bs))) = Value.int .i64 (↑k)∧True)∧((tt∧(okV (fun l => l.blt 67) 3 (rdV 65 o5 bs 66) && true) = true∧tt∧tt∧tt∧True∧[rnV (lift 69 76 [67,68,66,65,74]) 3 (rdV 67 (numO 4 o4 bs) bs 69)] = [rnV (lift 67 77 [66,65,76]) 3 (rdV 65 o5 bs 66)])∧(tt∧(u8s bs).all (okV (fun l => l.blt 67) 3) = true∧tt∧tt∧tt∧True∧List.map (fun c => Value.int .u8 (↑c.toNat)) bs = List.map (rnV (lift 67 77 [66,65,76]) 3) (u8s bs))∧True)∧(tt∧bs.length - o5 ≤ bs.length - numO 4 o4 bs)∧True)∧(b4 && numIs 4 o4 bs) = true)∧(b4 && numIs 4 o4 bs) = true)∧True∧(rr (Value.int .i64 256)∧rr (Value.func (Fn.func 45) { toList:=[] } { toList:=[Value.pointer (some ⟨69,0,none⟩),.pointer (some ⟨68,0,none⟩),.pointer (some ⟨70,0,none⟩)] })∧rr (Value.pointer (some ⟨69,0,none⟩))∧rr (Value.pointer (some ⟨68,0,none⟩))∧True)∧((tt∧tt∧tt∧tt∧tt∧True∧rr [Value.func (Fn.func 40) { toList:=[] } { toList:=[Value.pointer (some ⟨67,0,none⟩),.pointer (some ⟨68,0,none⟩)] }])∧(tt∧tt∧tt∧tt∧tt∧True∧rr [Value.pointer (some ⟨66,0,none⟩)])∧(tt∧tt∧tt∧tt∧tt∧True∧[Value.bool (takIs k o5 bs)] = [Value.bool b6])∧(tt∧(okV (fun l => l.blt 73) 3 (rdV 68 o6 bs 69) && true) = true∧tt∧tt∧tt∧True∧[rnV (lift 67 77 [66,65,76]) 3 (rdV 65 (takO k o5 bs) bs 67)] = [rnV (lift 73 78 [69,67,68,66,65,77,70,75,70]) 3 (rdV 68 o6 bs 69)])∧(tt∧(u8s bs).all (okV (fun l => l.blt 73) 3) = true∧tt∧tt∧tt∧True∧List.map (fun c => Value.int .u8 (↑c.toNat)) bs = List.map (rnV (lift 73 78 [69,67,68,66,65,77,70,75,70]) 3) (u8s bs))∧(tt∧tt∧tt∧tt∧tt∧True∧rr [Value.int .i64 (IntKind.i64.wrap (↑(numV 4 0 bs))),.int .i64 (IntKind.i64.wrap (↑(numV 4 o1 bs))),.int .i64 (IntKind.i64.wrap (↑(numV 4 o2 bs))),.slice (some ⟨75,0,none⟩) ca.length 9223372036854775883,.string ⟨⟨takV k o5 bs⟩⟩,.slice none 0 0,.slice none 0 0])∧True)∧(tt∧bs.length - o6 ≤ bs.length - takO k o5 bs)∧True)∧True∧(rr (Value.int .i64 4)∧rr (Value.func (Fn.func 46) { toList:=[] } { toList:=[Value.pointer (some ⟨70,0,none⟩),.pointer (some ⟨69,0,none⟩)] })∧rr (Value.pointer (some ⟨69,0,none⟩))∧rr (Value.pointer (some ⟨68,0,none⟩))∧True)∧((tt∧tt∧tt∧tt∧tt∧True∧rr [Value.func (Fn.func 40) { toList:=[] } { toList:=[Value.pointer (some ⟨67,0,none⟩),.pointer (some ⟨68,0,none⟩)] }])∧(tt∧tt∧tt∧tt∧tt∧True∧rr [Value.pointer (some ⟨66,0,none⟩)])∧(tt∧tt∧tt∧tt∧tt∧True∧rr [Value.bool b7])∧(tt∧(okV (fun l => l.blt 73) 3 (rdV 68 o7 bs 69) && true) = true∧tt∧tt∧tt∧True∧[rnV (lift 73 78 [69,67,68,66,65,77,70,75,70]) 3 (rdV 68 o7 bs 73)] = [rnV (lift 73 80 [69,67,68,66,65,78,70,75,79]) 3 (rdV 68 o7 bs 69)])∧(tt∧(u8s bs).all (okV (fun l => l.blt 73) 3) = true∧tt∧tt∧tt∧True∧List.map (fun c => Value.int .u8 (↑c.toNat)) bs = List.map (rnV (lift 73 80 [69,67,68,66,65,78,70,75,79]) 3) (u8s bs))∧(tt∧tt∧tt∧tt∧tt∧True∧rr [Value.int .i64 (IntKind.i64.wrap (↑(numV 4 0 bs))),.int .i64 (IntKind.i64.wrap (↑(numV 4 o1 bs))),.int .i64 (IntKind.i64.wrap (↑(numV 4 o2 bs))),.slice (some ⟨75,0,none⟩) ca.length 9223372036854775883,.string ⟨⟨takV k o5 bs⟩⟩,.slice (some ⟨79,0,none⟩) ra.length 9223372036854775887,.slice none 0 0])∧True)∧(tt∧bs.length - o7 ≤ bs.length - o7)∧True)∧(!b8) = false)∧(!b8) = false)∧True∧(rr (Value.pointer (some ⟨66,0,none⟩))∧True)∧((tt∧(okV (fun l => l.blt 67) 3 (rdV 65 o8 bs 66) && true) = true∧tt∧tt∧tt∧True∧[rnV (lift 73 80 [69,67,68,66,65,78,70,75,79]) 3 (rdV 68 o8 bs 73)] = [rnV (lift 67 82 [66,65,80]) 3 (rdV 65 o8 bs 66)])∧(tt∧(u8s bs).all (okV (fun l => l.blt 67) 3) = true∧tt∧tt∧tt∧True∧List.map (fun c => Value.int .u8 (↑c.toNat)) bs = List.map (rnV (lift 67 82 [66,65,80]) 3) (u8s bs))∧True)∧(tt∧bs.length - o8 ≤ bs.length - o8)∧True)∧(!b8) = false)∧(!b8) = false)∧((↑(bs.length - o8):Int) != (0:Int)) = false)∧((↑(bs.length - o8):Int) != (0:Int)) = false)∧True∧(rr (Value.agg ⟨[.int .i64 (IntKind.i64.wrap (↑(numV 4 0 bs))),.int .i64 (IntKind.i64.wrap (↑(numV 4 o1 bs))),.int .i64 (IntKind.i64.wrap (↑(numV 4 o2 bs))),.slice (some ⟨75,0,none⟩) ca.length 9223372036854775883,.string ⟨⟨takV k o5 bs⟩⟩,.slice (some ⟨79,0,none⟩) ra.length 9223372036854775887,.slice (some ⟨81,0,none⟩) sa.length 9223372036854775889]⟩)∧True)∧((tt∧(rels ra).all (okV (fun l => l.blt 67) 3) = true∧tt∧tt∧tt∧True∧rels ra = List.map (rnV (lift 67 82 [75,79,81]) 3) (rels ra))∧(tt∧(u32s sa).all (okV (fun l => l.blt 67) 3) = true∧tt∧tt∧tt∧True∧u32s sa = List.map (rnV (lift 67 82 [75,79,81]) 3) (u32s sa))∧True)∧True)∧((↑(bs.length - o8):Int) != (0:Int)) = false)∧((↑(bs.length - o8):Int) != (0:Int)) = false)∧(e != (0:Int)) = false : St }):=by kernel_rfl
end Go.Proofs.Ytdljpnebpoaeiaa
