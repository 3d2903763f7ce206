/-
  ImageBack: the proof's last part: the statement holds, with no condition.
-/
import Derived.Test.YtdljpnebpoaeiaaQImageBackE
set_option linter.unusedSimpArgs false
set_option linter.unusedVariables false
set_option linter.unusedSectionVars false
namespace Go.Proofs.Ytdljpnebpoaeiaa
open Go.RowKit
open Sy
section
variable (bs : List UInt8)
def dO1 : Nat:=numO 4 0 bs
def dB1 : Bool:=numIs 4 0 bs
def dO2 : Nat:=numO 4 (dO1 bs) bs
def dB2 : Bool:=dB1 bs && numIs 4 (dO1 bs) bs
def dO3 : Nat:=numO 4 (dO2 bs) bs
def dB3 : Bool:=dB2 bs && numIs 4 (dO2 bs) bs
def dCa : List Nat:=anCa 4096 (dO3 bs) (dB3 bs) bs
def dO4 : Nat:=anCo 4096 (dO3 bs) (dB3 bs) bs
def dB4 : Bool:=anCb 4096 (dO3 bs) (dB3 bs) bs
def dK : Nat:=numV 4 (dO4 bs) bs
def dO5 : Nat:=numO 4 (dO4 bs) bs
def dB5 : Bool:=dB4 bs && numIs 4 (dO4 bs) bs
def dD : List UInt8:=takV (dK bs) (dO5 bs) bs
def dO6 : Nat:=takO (dK bs) (dO5 bs) bs
def dB6 : Bool:=dB5 bs && takIs (dK bs) (dO5 bs) bs
def dRa : List Rl:=anRa 256 (dO6 bs) (dB6 bs) bs
def dO7 : Nat:=anRo 256 (dO6 bs) (dB6 bs) bs
def dB7 : Bool:=anRb 256 (dO6 bs) (dB6 bs) bs
def dSa : List Nat:=anCa 4 (dO7 bs) (dB7 bs) bs
def dO8 : Nat:=anCo 4 (dO7 bs) (dB7 bs) bs
def dB8 : Bool:=anCb 4 (dO7 bs) (dB7 bs) bs
def dP : Int:=IntKind.i64.wrap (numV 4 0 bs : Int)
def dS : Int:=IntKind.i64.wrap (numV 4 (dO1 bs) bs : Int)
def dT : Int:=IntKind.i64.wrap (numV 4 (dO2 bs) bs : Int)
end
theorem like_slO (g n : Nat) : like (Value.slice none 0 0) (slO g n) = slO g n:=by unfold slO; split <;> rfl
theorem isLike_slO (g n : Nat) : isLike (Value.slice none 0 0) (slO g n) = true:=by unfold slO; split <;> rfl
theorem one_slO (g n : Nat) : (slO g n).oneCell' = true:=by unfold slO; split <;> rfl
theorem imgO_rn (σ : Nat → Nat) (a b c : Nat) (p s t : Int) (nc nr ns : Nat) (d : List UInt8) : rnV σ 3 (imgO a b c p s t nc nr ns d) = imgO (σ a) (σ b) (σ c) p s t nc nr ns d:=by
 show Value.agg ⟨[.int .i64 p,.int .i64 s,.int .i64 t,rnV σ 2 (slO a nc),.string ⟨⟨d⟩⟩,rnV σ 2 (slO b nr),rnV σ 2 (slO c ns)]⟩ = _
 rw [slO_rn,slO_rn,slO_rn]; rfl
theorem runC_le (bs : List UInt8) (hl : bs.length ≤ 1000000000) : ∀ (m off : Nat),off ≤ 1000000000 → (runC bs m off).2.1 ≤ 1000000000
 | 0,off,h => h
 | m + 1,off,h => by
  unfold runC
  cases hI : numIs 4 off bs
  ·exact h
  ·have : 4 ≤ bs.length - off:=by simpa [numIs] using hI
   exact runC_le bs hl m (off + 4) (by omega)
theorem runR_le (bs : List UInt8) (hl : bs.length ≤ 1000000000) : ∀ (m off : Nat),off ≤ 1000000000 → (runR bs m off).2.1 ≤ 1000000000
 | 0,off,h => h
 | m + 1,off,h => by
  unfold runR
  have h6:=(rO6_le (off:=off) (bs:=bs) h hl).2.2.2.2.2
  cases hI : rI off bs
  ·exact h6
  ·exact runR_le bs hl m _ h6
theorem anCo_le {most off : Nat} {b : Bool} {bs : List UInt8} (ho : off ≤ 1000000000) (hl : bs.length ≤ 1000000000) : anCo most off b bs ≤ 1000000000:=by
 have h:=numO_le (w:=4) ho hl (by omega)
 unfold anCo
 cases noneB most off b bs
 ·exact runC_le bs hl _ _ h
 ·exact h
theorem anRo_le {most off : Nat} {b : Bool} {bs : List UInt8} (ho : off ≤ 1000000000) (hl : bs.length ≤ 1000000000) : anRo most off b bs ≤ 1000000000:=by
 have h:=numO_le (w:=4) ho hl (by omega)
 unfold anRo
 cases noneB most off b bs
 ·exact runR_le bs hl _ _ h
 ·exact h
structure DOk (bs : List UInt8) : Prop where
 l : bs.length ≤ 900000000
 o1 : dO1 bs ≤ 1000000000
 o2 : dO2 bs ≤ 1000000000
 o3 : dO3 bs ≤ 1000000000
 o4 : dO4 bs ≤ 1000000000
 o5 : dO5 bs ≤ 1000000000
 o6 : dO6 bs ≤ 1000000000
 o7 : dO7 bs ≤ 1000000000
 o8 : dO8 bs ≤ 1000000000
theorem dOk (bs : List UInt8) (h : bs.length ≤ 900000000) : DOk bs:=by
 have hl : bs.length ≤ 1000000000:=by omega
 have h1 : dO1 bs ≤ 1000000000:=numO_le (by omega) hl (by omega)
 have h2 : dO2 bs ≤ 1000000000:=numO_le h1 hl (by omega)
 have h3 : dO3 bs ≤ 1000000000:=numO_le h2 hl (by omega)
 have h4 : dO4 bs ≤ 1000000000:=anCo_le h3 hl
 have h5 : dO5 bs ≤ 1000000000:=numO_le h4 hl (by omega)
 have h6 : dO6 bs ≤ 1000000000:=by
  unfold dO6 takO
  by_cases e : dK bs ≤ bs.length - dO5 bs
  ·rw [decide_eq_true e]
   by_cases e2 : dK bs < bs.length - dO5 bs
   ·rw [decide_eq_true e2]; show dO5 bs + dK bs ≤ _; omega
   ·rw [decide_eq_false e2]; show bs.length + 1 ≤ _; omega
  ·rw [decide_eq_false e]; exact h5
 have h7 : dO7 bs ≤ 1000000000:=anRo_le h6 hl
 exact ⟨h,h1,h2,h3,h4,h5,h6,h7,anCo_le h7 hl⟩
theorem y_ok6 {a b c d e f : Value} (h1 : okV q71 3 a = true) (h2 : okV q71 3 b = true) (h3 : okV q71 3 c = true) (h4 : okV q71 3 d = true) (h5 : okV q71 3 e = true) (h6 : okV q71 3 f = true) : YOk a b c d e f:=⟨fun v hv => by
 simp only [rr, tt, List.mem_cons,List.not_mem_nil,or_false] at hv
 rcases hv with rfl | rfl | rfl | rfl | rfl | rfl <;> assumption⟩
theorem ncc_flat (w off : Nat) (b : Bool) (bs : List UInt8) : FlatC (nccC w off b bs):=⟨fun x hx hne => by
 simp only [rr, tt, nccC,List.mem_cons,List.not_mem_nil,or_false] at hx
 rcases hx with rfl | rfl <;> exact absurd rfl hne⟩
theorem tak_flat (k off : Nat) (bs : List UInt8) : FlatC (takC k off bs):=⟨fun x hx hne => by
 obtain rfl:=List.mem_singleton.1 hx
 exact absurd rfl hne⟩
theorem lef_flat (off : Nat) (bs : List UInt8) : FlatC (lefC off bs):=⟨fun x hx => by cases hx⟩
def imgBlk (g : Nat) (w : Nat) (cs : List Value) : Nat × Sy.Blk:=(g,⟨true,some (g,w),cs,none⟩)
def yesO (bs : List UInt8) (p s t : Int) (ca : List Nat) (ra : List Rl) (sa : List Nat) (d : List UInt8) : Con:=⟨[.string ⟨⟨bs⟩⟩],64,[],[],.tuple ⟨[imgV p s t ca.length ra.length sa.length d,.int .i64 0]⟩,67,[imgBlk 64 1 (u32s ca),imgBlk 65 6 (rels ra),imgBlk 66 1 (u32s sa)],[(64,ca.length),(65,ra.length),(66,sa.length)]⟩
def yesN (bs : List UInt8) (p s t : Int) (ca : List Nat) (sa : List Nat) (d : List UInt8) : Con:=⟨[.string ⟨⟨bs⟩⟩],64,[],[],.tuple ⟨[imgNV p s t ca.length sa.length d,.int .i64 0]⟩,67,[imgBlk 64 1 (u32s ca),imgBlk 66 1 (u32s sa)],[(64,ca.length),(66,sa.length)]⟩
def dYoσ (l : Nat) : Nat:=if l = 64 then 75 else if l = 65 then 79 else if l = 66 then 81 else l
def dYnσ (l : Nat) : Nat:=if l = 64 then 75 else if l = 66 then 80 else l
theorem yesO_wf (bs : List UInt8) (p s t : Int) (ca : List Nat) (ra : List Rl) (sa : List Nat) (d : List UInt8) : (yesO bs p s t ca ra sa d).Wf 3:=⟨by show NG ≤ 64; decide,by show 64 ≤ 67; omega,trivial,rfl,rfl,rfl,rfl,by kernel_rfl,fun x hx v hv => by
 simp only [rr, tt, yesO,imgBlk,List.mem_cons,List.not_mem_nil,or_false] at hx
 rcases hx with rfl | rfl | rfl
 ·exact okV_flat0 (u32s_flat _ v hv) 3
 ·exact okV_flat0 (rels_flat _ v hv) 3
 ·exact okV_flat0 (u32s_flat _ v hv) 3⟩
theorem yesN_wf (bs : List UInt8) (p s t : Int) (ca : List Nat) (sa : List Nat) (d : List UInt8) : (yesN bs p s t ca sa d).Wf 3:=⟨by show NG ≤ 64; decide,by show 64 ≤ 67; omega,trivial,rfl,rfl,rfl,rfl,by kernel_rfl,fun x hx v hv => by
 simp only [rr, tt, yesN,imgBlk,List.mem_cons,List.not_mem_nil,or_false] at hx
 rcases hx with rfl | rfl
 ·exact okV_flat0 (u32s_flat _ v hv) 3
 ·exact okV_flat0 (u32s_flat _ v hv) 3⟩
theorem dσ_ng {l : Nat} (h : l < NG) : dYoσ l = l ∧ dYnσ l = l:=by
 have : NG ≤ 64:=by decide
 unfold dYoσ dYnσ
 rw [if_neg (by omega),if_neg (by omega),if_neg (by omega),if_neg (by omega),if_neg (by omega)]
 exact ⟨rfl,rfl⟩
def errImg : Value:=.agg ⟨[.int .i64 0,.int .i64 0,.int .i64 0,.slice none 0 0,.string ⟨⟨[]⟩⟩,.slice none 0 0,.slice none 0 0]⟩
def st_aaa1 (bs : List UInt8) : Sy.Steps:=[(71,40,nccC 4 0 true bs,[67,68,66,65,65]),(72,40,nccC 4 (dO1 bs) (dB1 bs) bs,[67,68,66,65,71]),(73,40,nccC 4 (dO2 bs) (dB2 bs) bs,[67,68,66,65,72]),(74,42,mc_A (.int .i64 (IntKind.i64.wrap (numV 4 0 bs : Int))) (.int .i64 (IntKind.i64.wrap (numV 4 (dO1 bs) bs : Int))) (.int .i64 (IntKind.i64.wrap (numV 4 (dO2 bs) bs : Int))) (.string ⟨⟨[]⟩⟩) (.slice none 0 0) (.slice none 0 0) (dO3 bs) (dB3 bs) bs (dCa bs).length (dO4 bs) (dB4 bs),[69,67,68,66,65,73,70,70,70]),(76,40,nccC 4 (dO4 bs) (dB4 bs) bs,[67,68,66,65,74]),(77,44,takC (dK bs) (dO5 bs) bs,[66,65,76]),(78,42,mr_A (.int .i64 (IntKind.i64.wrap (numV 4 0 bs : Int))) (.int .i64 (IntKind.i64.wrap (numV 4 (dO1 bs) bs : Int))) (.int .i64 (IntKind.i64.wrap (numV 4 (dO2 bs) bs : Int))) (slO 71 (dCa bs).length) (.string ⟨⟨takV (dK bs) (dO5 bs) bs⟩⟩) (.slice none 0 0) (dO6 bs) (dB6 bs) bs (dRa bs).length (dO7 bs) (dB7 bs),[69,67,68,66,65,77,70,75,70]),(80,42,ms_A (.int .i64 (IntKind.i64.wrap (numV 4 0 bs : Int))) (.int .i64 (IntKind.i64.wrap (numV 4 (dO1 bs) bs : Int))) (.int .i64 (IntKind.i64.wrap (numV 4 (dO2 bs) bs : Int))) (slO 71 (dCa bs).length) (.string ⟨⟨takV (dK bs) (dO5 bs) bs⟩⟩) (slO 72 (dRa bs).length) (dO7 bs) (dB7 bs) bs (dSa bs).length (dO8 bs) (dB8 bs),[69,67,68,66,65,78,70,75,79]),(82,47,lefC (dO8 bs) bs,[66,65,80])]
set_option maxRecDepth 100000 in
theorem dec_aaa1 (bs : List UInt8) (hd : DOk bs) (h5 : dB5 bs = true) (h8 : dB8 bs = false) : ∃ (T : List (Nat × Bool)) (q : Prop),obs (evF Try.prog (baseF 3 (selSteps (st_aaa1 bs)) noBase) noLoop 100 10 20 [.string ⟨⟨bs⟩⟩] ⟨64,[],[],0,T,0,True⟩) = some (.tuple ⟨[errImg,.int .i64 4]⟩,q) ∧ q:=by
 unfold st_aaa1
 refine ⟨_,_,dr_aaa1 bs (dO1 bs) (dO2 bs) (dO3 bs) (dO4 bs) (dO5 bs) (dO6 bs) (dO7 bs) (dO8 bs) (dK bs) (dB1 bs) (dB2 bs) (dB3 bs) (dB4 bs) (dB5 bs) (dB6 bs) (dB7 bs) (dB8 bs) (dCa bs) (dRa bs) (dSa bs) (dCa bs).length (dRa bs).length (dSa bs).length,?_⟩
 have w0 : lift 69 71 [67,68,66,65,65] 64 = 67:=rfl
 have w1 : lift 69 71 [67,68,66,65,65] 65 = 68:=rfl
 have w2 : lift 69 71 [67,68,66,65,65] 66 = 66:=rfl
 have w3 : lift 69 71 [67,68,66,65,65] 67 = 65:=rfl
 have w4 : lift 69 71 [67,68,66,65,65] 68 = 65:=rfl
 have w5 : lift 69 71 [67,68,66,65,65] 69 = 71:=rfl
 have w6 : lift 69 71 [67,68,66,65,65] 70 = 72:=rfl
 have w7 : lift 69 71 [67,68,66,65,65] 71 = 73:=rfl
 have w8 : lift 69 72 [67,68,66,65,71] 64 = 67:=rfl
 have w9 : lift 69 72 [67,68,66,65,71] 65 = 68:=rfl
 have w10 : lift 69 72 [67,68,66,65,71] 66 = 66:=rfl
 have w11 : lift 69 72 [67,68,66,65,71] 67 = 65:=rfl
 have w12 : lift 69 72 [67,68,66,65,71] 68 = 71:=rfl
 have w13 : lift 69 72 [67,68,66,65,71] 69 = 72:=rfl
 have w14 : lift 69 72 [67,68,66,65,71] 70 = 73:=rfl
 have w15 : lift 69 72 [67,68,66,65,71] 71 = 74:=rfl
 have w16 : lift 69 73 [67,68,66,65,72] 64 = 67:=rfl
 have w17 : lift 69 73 [67,68,66,65,72] 65 = 68:=rfl
 have w18 : lift 69 73 [67,68,66,65,72] 66 = 66:=rfl
 have w19 : lift 69 73 [67,68,66,65,72] 67 = 65:=rfl
 have w20 : lift 69 73 [67,68,66,65,72] 68 = 72:=rfl
 have w21 : lift 69 73 [67,68,66,65,72] 69 = 73:=rfl
 have w22 : lift 69 73 [67,68,66,65,72] 70 = 74:=rfl
 have w23 : lift 69 73 [67,68,66,65,72] 71 = 75:=rfl
 have w24 : lift 73 74 [69,67,68,66,65,73,70,70,70] 64 = 69:=rfl
 have w25 : lift 73 74 [69,67,68,66,65,73,70,70,70] 65 = 67:=rfl
 have w26 : lift 73 74 [69,67,68,66,65,73,70,70,70] 66 = 68:=rfl
 have w27 : lift 73 74 [69,67,68,66,65,73,70,70,70] 67 = 66:=rfl
 have w28 : lift 73 74 [69,67,68,66,65,73,70,70,70] 68 = 65:=rfl
 have w29 : lift 73 74 [69,67,68,66,65,73,70,70,70] 69 = 73:=rfl
 have w30 : lift 73 74 [69,67,68,66,65,73,70,70,70] 70 = 70:=rfl
 have w31 : lift 73 74 [69,67,68,66,65,73,70,70,70] 71 = 70:=rfl
 have w32 : lift 73 74 [69,67,68,66,65,73,70,70,70] 72 = 70:=rfl
 have w33 : lift 73 74 [69,67,68,66,65,73,70,70,70] 73 = 74:=rfl
 have w34 : lift 73 74 [69,67,68,66,65,73,70,70,70] 74 = 75:=rfl
 have w35 : lift 73 74 [69,67,68,66,65,73,70,70,70] 75 = 76:=rfl
 have w36 : lift 69 76 [67,68,66,65,74] 64 = 67:=rfl
 have w37 : lift 69 76 [67,68,66,65,74] 65 = 68:=rfl
 have w38 : lift 69 76 [67,68,66,65,74] 66 = 66:=rfl
 have w39 : lift 69 76 [67,68,66,65,74] 67 = 65:=rfl
 have w40 : lift 69 76 [67,68,66,65,74] 68 = 74:=rfl
 have w41 : lift 69 76 [67,68,66,65,74] 69 = 76:=rfl
 have w42 : lift 69 76 [67,68,66,65,74] 70 = 77:=rfl
 have w43 : lift 69 76 [67,68,66,65,74] 71 = 78:=rfl
 have w44 : lift 67 77 [66,65,76] 64 = 66:=rfl
 have w45 : lift 67 77 [66,65,76] 65 = 65:=rfl
 have w46 : lift 67 77 [66,65,76] 66 = 76:=rfl
 have w47 : lift 67 77 [66,65,76] 67 = 77:=rfl
 have w48 : lift 67 77 [66,65,76] 68 = 78:=rfl
 have w49 : lift 67 77 [66,65,76] 69 = 79:=rfl
 have w50 : lift 73 78 [69,67,68,66,65,77,70,75,70] 64 = 69:=rfl
 have w51 : lift 73 78 [69,67,68,66,65,77,70,75,70] 65 = 67:=rfl
 have w52 : lift 73 78 [69,67,68,66,65,77,70,75,70] 66 = 68:=rfl
 have w53 : lift 73 78 [69,67,68,66,65,77,70,75,70] 67 = 66:=rfl
 have w54 : lift 73 78 [69,67,68,66,65,77,70,75,70] 68 = 65:=rfl
 have w55 : lift 73 78 [69,67,68,66,65,77,70,75,70] 69 = 77:=rfl
 have w56 : lift 73 78 [69,67,68,66,65,77,70,75,70] 70 = 70:=rfl
 have w57 : lift 73 78 [69,67,68,66,65,77,70,75,70] 71 = 75:=rfl
 have w58 : lift 73 78 [69,67,68,66,65,77,70,75,70] 72 = 70:=rfl
 have w59 : lift 73 78 [69,67,68,66,65,77,70,75,70] 73 = 78:=rfl
 have w60 : lift 73 78 [69,67,68,66,65,77,70,75,70] 74 = 79:=rfl
 have w61 : lift 73 78 [69,67,68,66,65,77,70,75,70] 75 = 80:=rfl
 have w62 : lift 73 80 [69,67,68,66,65,78,70,75,79] 64 = 69:=rfl
 have w63 : lift 73 80 [69,67,68,66,65,78,70,75,79] 65 = 67:=rfl
 have w64 : lift 73 80 [69,67,68,66,65,78,70,75,79] 66 = 68:=rfl
 have w65 : lift 73 80 [69,67,68,66,65,78,70,75,79] 67 = 66:=rfl
 have w66 : lift 73 80 [69,67,68,66,65,78,70,75,79] 68 = 65:=rfl
 have w67 : lift 73 80 [69,67,68,66,65,78,70,75,79] 69 = 78:=rfl
 have w68 : lift 73 80 [69,67,68,66,65,78,70,75,79] 70 = 70:=rfl
 have w69 : lift 73 80 [69,67,68,66,65,78,70,75,79] 71 = 75:=rfl
 have w70 : lift 73 80 [69,67,68,66,65,78,70,75,79] 72 = 79:=rfl
 have w71 : lift 73 80 [69,67,68,66,65,78,70,75,79] 73 = 80:=rfl
 have w72 : lift 73 80 [69,67,68,66,65,78,70,75,79] 74 = 81:=rfl
 have w73 : lift 73 80 [69,67,68,66,65,78,70,75,79] 75 = 82:=rfl
 have hu : List.map (fun (c : UInt8) => Value.int IntKind.u8 (c.toNat : Int)) bs = u8s bs:=rfl
 have f5 : ∀ xs p d,(u8s xs).all (okV p d) = true:=fun xs _ _ => flat_all (u8s_flat xs)
 have f6 : ∀ xs σ d,(u8s xs).map (rnV σ d) = u8s xs:=fun xs _ _ => flat_map (u8s_flat xs)
 have f7 : ∀ xs p d,(u32s xs).all (okV p d) = true:=fun xs _ _ => flat_all (u32s_flat xs)
 have f8 : ∀ xs σ d,(u32s xs).map (rnV σ d) = u32s xs:=fun xs _ _ => flat_map (u32s_flat xs)
 have f9 : ∀ xs p d,(rels xs).all (okV p d) = true:=fun xs _ _ => flat_all (rels_flat xs)
 have f10 : ∀ xs σ d,(rels xs).map (rnV σ d) = rels xs:=fun xs _ _ => flat_map (rels_flat xs)
 have r1 : ∀ o : Nat,okV (fun l => Nat.blt l 69) 3 (rdV 67 o bs 68) = true:=fun o => rdV_ok rfl rfl
 have r2 : ∀ o : Nat,okV (fun l => Nat.blt l 73) 3 (rdV 68 o bs 69) = true:=fun o => rdV_ok rfl rfl
 have r3 : ∀ o : Nat,okV (fun l => Nat.blt l 67) 3 (rdV 65 o bs 66) = true:=fun o => rdV_ok rfl rfl
 have r4 : ∀ n : Nat,okV (fun l => Nat.blt l 73) 3 (slO 71 n) = true:=fun o => slO_ok rfl
 have r5 : ∀ n : Nat,okV (fun l => Nat.blt l 73) 3 (slO 72 n) = true:=fun o => slO_ok rfl
 have hz : [rdV 65 0 bs 65] = [Value.slice (some { block:=65,off:=0 }) bs.length 9223372036854775873]:=by rw [rdV_zero]; rfl
 have hk : IntKind.i64.wrap (dK bs : Int) = (dK bs : Int):=wrap_i64 (by omega) (by have:=numV_lt (off:=dO4 bs) (bs:=bs); unfold dK; omega)
 have c1 : numO 4 0 bs = dO1 bs:=rfl
 have c2 : numO 4 (dO1 bs) bs = dO2 bs:=rfl
 have c3 : numO 4 (dO2 bs) bs = dO3 bs:=rfl
 have c4 : numO 4 (dO4 bs) bs = dO5 bs:=rfl
 have c5 : takO (dK bs) (dO5 bs) bs = dO6 bs:=rfl
 have c6 : numV 4 (dO4 bs) bs = dK bs:=rfl
 have k1 : numIs 4 0 bs = dB1 bs:=rfl
 have k2 : (dB1 bs && numIs 4 (dO1 bs) bs) = dB2 bs:=rfl
 have k3 : (dB2 bs && numIs 4 (dO2 bs) bs) = dB3 bs:=rfl
 have k4 : (dB4 bs && numIs 4 (dO4 bs) bs) = dB5 bs:=rfl
 have k5 : takIs (dK bs) (dO5 bs) bs = dB6 bs:=by unfold dB6; rw [h5]; rfl
 simp only [rr, tt, hu,f5,f6,f7,f8,f9,f10,rdV_rn,slO_rn,imgO_rn,like_slO,isLike_slO,one_slO,w0,w1,w2,w3,w4,w5,w6,w7,w8,w9,w10,w11,w12,w13,w14,w15,w16,w17,w18,w19,w20,w21,w22,w23,w24,w25,w26,w27,w28,w29,w30,w31,w32,w33,w34,w35,w36,w37,w38,w39,w40,w41,w42,w43,w44,w45,w46,w47,w48,w49,w50,w51,w52,w53,w54,w55,w56,w57,w58,w59,w60,w61,w62,w63,w64,w65,w66,w67,w68,w69,w70,w71,w72,w73,r1,r2,r3,r4,r5,hz,lenT_eq,Nat.sub_zero,c1,c2,c3,c4,c5,c6,k1,k2,k3,k4,k5,hk,h5,h8,Bool.not_true,Bool.not_false,Bool.and_self,Bool.true_and,cond_true,and_true,true_and,and_self,Nat.le_refl]
def st_aaa2 (bs : List UInt8) : Sy.Steps:=[(71,40,nccC 4 0 true bs,[67,68,66,65,65]),(72,40,nccC 4 (dO1 bs) (dB1 bs) bs,[67,68,66,65,71]),(73,40,nccC 4 (dO2 bs) (dB2 bs) bs,[67,68,66,65,72]),(74,42,mc_A (.int .i64 (IntKind.i64.wrap (numV 4 0 bs : Int))) (.int .i64 (IntKind.i64.wrap (numV 4 (dO1 bs) bs : Int))) (.int .i64 (IntKind.i64.wrap (numV 4 (dO2 bs) bs : Int))) (.string ⟨⟨[]⟩⟩) (.slice none 0 0) (.slice none 0 0) (dO3 bs) (dB3 bs) bs (dCa bs).length (dO4 bs) (dB4 bs),[69,67,68,66,65,73,70,70,70]),(76,40,nccC 4 (dO4 bs) (dB4 bs) bs,[67,68,66,65,74]),(77,44,takC (dK bs) (dO5 bs) bs,[66,65,76]),(78,42,mr_A (.int .i64 (IntKind.i64.wrap (numV 4 0 bs : Int))) (.int .i64 (IntKind.i64.wrap (numV 4 (dO1 bs) bs : Int))) (.int .i64 (IntKind.i64.wrap (numV 4 (dO2 bs) bs : Int))) (slO 71 (dCa bs).length) (.string ⟨⟨takV (dK bs) (dO5 bs) bs⟩⟩) (.slice none 0 0) (dO6 bs) (dB6 bs) bs (dRa bs).length (dO7 bs) (dB7 bs),[69,67,68,66,65,77,70,75,70]),(80,42,ms_A (.int .i64 (IntKind.i64.wrap (numV 4 0 bs : Int))) (.int .i64 (IntKind.i64.wrap (numV 4 (dO1 bs) bs : Int))) (.int .i64 (IntKind.i64.wrap (numV 4 (dO2 bs) bs : Int))) (slO 71 (dCa bs).length) (.string ⟨⟨takV (dK bs) (dO5 bs) bs⟩⟩) (slO 72 (dRa bs).length) (dO7 bs) (dB7 bs) bs (dSa bs).length (dO8 bs) (dB8 bs),[69,67,68,66,65,78,70,75,79]),(82,47,lefC (dO8 bs) bs,[66,65,80])]
set_option maxRecDepth 100000 in
theorem dec_aaa2 (bs : List UInt8) (hd : DOk bs) (h5 : dB5 bs = true) (h8 : dB8 bs = true) (hle : bs.length - dO8 bs ≠ 0) : ∃ (T : List (Nat × Bool)) (q : Prop),obs (evF Try.prog (baseF 3 (selSteps (st_aaa2 bs)) noBase) noLoop 100 10 20 [.string ⟨⟨bs⟩⟩] ⟨64,[],[],0,T,0,True⟩) = some (.tuple ⟨[errImg,.int .i64 4]⟩,q) ∧ q:=by
 unfold st_aaa2
 refine ⟨_,_,dr_aaa2 bs (dO1 bs) (dO2 bs) (dO3 bs) (dO4 bs) (dO5 bs) (dO6 bs) (dO7 bs) (dO8 bs) (dK bs) (dB1 bs) (dB2 bs) (dB3 bs) (dB4 bs) (dB5 bs) (dB6 bs) (dB7 bs) (dB8 bs) (dCa bs) (dRa bs) (dSa bs) (dCa bs).length (dRa bs).length (dSa bs).length,?_⟩
 have w0 : lift 69 71 [67,68,66,65,65] 64 = 67:=rfl
 have w1 : lift 69 71 [67,68,66,65,65] 65 = 68:=rfl
 have w2 : lift 69 71 [67,68,66,65,65] 66 = 66:=rfl
 have w3 : lift 69 71 [67,68,66,65,65] 67 = 65:=rfl
 have w4 : lift 69 71 [67,68,66,65,65] 68 = 65:=rfl
 have w5 : lift 69 71 [67,68,66,65,65] 69 = 71:=rfl
 have w6 : lift 69 71 [67,68,66,65,65] 70 = 72:=rfl
 have w7 : lift 69 71 [67,68,66,65,65] 71 = 73:=rfl
 have w8 : lift 69 72 [67,68,66,65,71] 64 = 67:=rfl
 have w9 : lift 69 72 [67,68,66,65,71] 65 = 68:=rfl
 have w10 : lift 69 72 [67,68,66,65,71] 66 = 66:=rfl
 have w11 : lift 69 72 [67,68,66,65,71] 67 = 65:=rfl
 have w12 : lift 69 72 [67,68,66,65,71] 68 = 71:=rfl
 have w13 : lift 69 72 [67,68,66,65,71] 69 = 72:=rfl
 have w14 : lift 69 72 [67,68,66,65,71] 70 = 73:=rfl
 have w15 : lift 69 72 [67,68,66,65,71] 71 = 74:=rfl
 have w16 : lift 69 73 [67,68,66,65,72] 64 = 67:=rfl
 have w17 : lift 69 73 [67,68,66,65,72] 65 = 68:=rfl
 have w18 : lift 69 73 [67,68,66,65,72] 66 = 66:=rfl
 have w19 : lift 69 73 [67,68,66,65,72] 67 = 65:=rfl
 have w20 : lift 69 73 [67,68,66,65,72] 68 = 72:=rfl
 have w21 : lift 69 73 [67,68,66,65,72] 69 = 73:=rfl
 have w22 : lift 69 73 [67,68,66,65,72] 70 = 74:=rfl
 have w23 : lift 69 73 [67,68,66,65,72] 71 = 75:=rfl
 have w24 : lift 73 74 [69,67,68,66,65,73,70,70,70] 64 = 69:=rfl
 have w25 : lift 73 74 [69,67,68,66,65,73,70,70,70] 65 = 67:=rfl
 have w26 : lift 73 74 [69,67,68,66,65,73,70,70,70] 66 = 68:=rfl
 have w27 : lift 73 74 [69,67,68,66,65,73,70,70,70] 67 = 66:=rfl
 have w28 : lift 73 74 [69,67,68,66,65,73,70,70,70] 68 = 65:=rfl
 have w29 : lift 73 74 [69,67,68,66,65,73,70,70,70] 69 = 73:=rfl
 have w30 : lift 73 74 [69,67,68,66,65,73,70,70,70] 70 = 70:=rfl
 have w31 : lift 73 74 [69,67,68,66,65,73,70,70,70] 71 = 70:=rfl
 have w32 : lift 73 74 [69,67,68,66,65,73,70,70,70] 72 = 70:=rfl
 have w33 : lift 73 74 [69,67,68,66,65,73,70,70,70] 73 = 74:=rfl
 have w34 : lift 73 74 [69,67,68,66,65,73,70,70,70] 74 = 75:=rfl
 have w35 : lift 73 74 [69,67,68,66,65,73,70,70,70] 75 = 76:=rfl
 have w36 : lift 69 76 [67,68,66,65,74] 64 = 67:=rfl
 have w37 : lift 69 76 [67,68,66,65,74] 65 = 68:=rfl
 have w38 : lift 69 76 [67,68,66,65,74] 66 = 66:=rfl
 have w39 : lift 69 76 [67,68,66,65,74] 67 = 65:=rfl
 have w40 : lift 69 76 [67,68,66,65,74] 68 = 74:=rfl
 have w41 : lift 69 76 [67,68,66,65,74] 69 = 76:=rfl
 have w42 : lift 69 76 [67,68,66,65,74] 70 = 77:=rfl
 have w43 : lift 69 76 [67,68,66,65,74] 71 = 78:=rfl
 have w44 : lift 67 77 [66,65,76] 64 = 66:=rfl
 have w45 : lift 67 77 [66,65,76] 65 = 65:=rfl
 have w46 : lift 67 77 [66,65,76] 66 = 76:=rfl
 have w47 : lift 67 77 [66,65,76] 67 = 77:=rfl
 have w48 : lift 67 77 [66,65,76] 68 = 78:=rfl
 have w49 : lift 67 77 [66,65,76] 69 = 79:=rfl
 have w50 : lift 73 78 [69,67,68,66,65,77,70,75,70] 64 = 69:=rfl
 have w51 : lift 73 78 [69,67,68,66,65,77,70,75,70] 65 = 67:=rfl
 have w52 : lift 73 78 [69,67,68,66,65,77,70,75,70] 66 = 68:=rfl
 have w53 : lift 73 78 [69,67,68,66,65,77,70,75,70] 67 = 66:=rfl
 have w54 : lift 73 78 [69,67,68,66,65,77,70,75,70] 68 = 65:=rfl
 have w55 : lift 73 78 [69,67,68,66,65,77,70,75,70] 69 = 77:=rfl
 have w56 : lift 73 78 [69,67,68,66,65,77,70,75,70] 70 = 70:=rfl
 have w57 : lift 73 78 [69,67,68,66,65,77,70,75,70] 71 = 75:=rfl
 have w58 : lift 73 78 [69,67,68,66,65,77,70,75,70] 72 = 70:=rfl
 have w59 : lift 73 78 [69,67,68,66,65,77,70,75,70] 73 = 78:=rfl
 have w60 : lift 73 78 [69,67,68,66,65,77,70,75,70] 74 = 79:=rfl
 have w61 : lift 73 78 [69,67,68,66,65,77,70,75,70] 75 = 80:=rfl
 have w62 : lift 73 80 [69,67,68,66,65,78,70,75,79] 64 = 69:=rfl
 have w63 : lift 73 80 [69,67,68,66,65,78,70,75,79] 65 = 67:=rfl
 have w64 : lift 73 80 [69,67,68,66,65,78,70,75,79] 66 = 68:=rfl
 have w65 : lift 73 80 [69,67,68,66,65,78,70,75,79] 67 = 66:=rfl
 have w66 : lift 73 80 [69,67,68,66,65,78,70,75,79] 68 = 65:=rfl
 have w67 : lift 73 80 [69,67,68,66,65,78,70,75,79] 69 = 78:=rfl
 have w68 : lift 73 80 [69,67,68,66,65,78,70,75,79] 70 = 70:=rfl
 have w69 : lift 73 80 [69,67,68,66,65,78,70,75,79] 71 = 75:=rfl
 have w70 : lift 73 80 [69,67,68,66,65,78,70,75,79] 72 = 79:=rfl
 have w71 : lift 73 80 [69,67,68,66,65,78,70,75,79] 73 = 80:=rfl
 have w72 : lift 73 80 [69,67,68,66,65,78,70,75,79] 74 = 81:=rfl
 have w73 : lift 73 80 [69,67,68,66,65,78,70,75,79] 75 = 82:=rfl
 have w74 : lift 67 82 [66,65,80] 64 = 66:=rfl
 have w75 : lift 67 82 [66,65,80] 65 = 65:=rfl
 have w76 : lift 67 82 [66,65,80] 66 = 80:=rfl
 have w77 : lift 67 82 [66,65,80] 67 = 82:=rfl
 have w78 : lift 67 82 [66,65,80] 68 = 83:=rfl
 have w79 : lift 67 82 [66,65,80] 69 = 84:=rfl
 have hu : List.map (fun (c : UInt8) => Value.int IntKind.u8 (c.toNat : Int)) bs = u8s bs:=rfl
 have f5 : ∀ xs p d,(u8s xs).all (okV p d) = true:=fun xs _ _ => flat_all (u8s_flat xs)
 have f6 : ∀ xs σ d,(u8s xs).map (rnV σ d) = u8s xs:=fun xs _ _ => flat_map (u8s_flat xs)
 have f7 : ∀ xs p d,(u32s xs).all (okV p d) = true:=fun xs _ _ => flat_all (u32s_flat xs)
 have f8 : ∀ xs σ d,(u32s xs).map (rnV σ d) = u32s xs:=fun xs _ _ => flat_map (u32s_flat xs)
 have f9 : ∀ xs p d,(rels xs).all (okV p d) = true:=fun xs _ _ => flat_all (rels_flat xs)
 have f10 : ∀ xs σ d,(rels xs).map (rnV σ d) = rels xs:=fun xs _ _ => flat_map (rels_flat xs)
 have r1 : ∀ o : Nat,okV (fun l => Nat.blt l 69) 3 (rdV 67 o bs 68) = true:=fun o => rdV_ok rfl rfl
 have r2 : ∀ o : Nat,okV (fun l => Nat.blt l 73) 3 (rdV 68 o bs 69) = true:=fun o => rdV_ok rfl rfl
 have r3 : ∀ o : Nat,okV (fun l => Nat.blt l 67) 3 (rdV 65 o bs 66) = true:=fun o => rdV_ok rfl rfl
 have r4 : ∀ n : Nat,okV (fun l => Nat.blt l 73) 3 (slO 71 n) = true:=fun o => slO_ok rfl
 have r5 : ∀ n : Nat,okV (fun l => Nat.blt l 73) 3 (slO 72 n) = true:=fun o => slO_ok rfl
 have hz : [rdV 65 0 bs 65] = [Value.slice (some { block:=65,off:=0 }) bs.length 9223372036854775873]:=by rw [rdV_zero]; rfl
 have hk : IntKind.i64.wrap (dK bs : Int) = (dK bs : Int):=wrap_i64 (by omega) (by have:=numV_lt (off:=dO4 bs) (bs:=bs); unfold dK; omega)
 have c1 : numO 4 0 bs = dO1 bs:=rfl
 have c2 : numO 4 (dO1 bs) bs = dO2 bs:=rfl
 have c3 : numO 4 (dO2 bs) bs = dO3 bs:=rfl
 have c4 : numO 4 (dO4 bs) bs = dO5 bs:=rfl
 have c5 : takO (dK bs) (dO5 bs) bs = dO6 bs:=rfl
 have c6 : numV 4 (dO4 bs) bs = dK bs:=rfl
 have k1 : numIs 4 0 bs = dB1 bs:=rfl
 have k2 : (dB1 bs && numIs 4 (dO1 bs) bs) = dB2 bs:=rfl
 have k3 : (dB2 bs && numIs 4 (dO2 bs) bs) = dB3 bs:=rfl
 have k4 : (dB4 bs && numIs 4 (dO4 bs) bs) = dB5 bs:=rfl
 have k5 : takIs (dK bs) (dO5 bs) bs = dB6 bs:=by unfold dB6; rw [h5]; rfl
 have x9 : (((bs.length - dO8 bs : Nat) : Int) != 0) = true:=by simp; omega
 simp only [rr, tt, hu,f5,f6,f7,f8,f9,f10,rdV_rn,slO_rn,imgO_rn,like_slO,isLike_slO,one_slO,w0,w1,w2,w3,w4,w5,w6,w7,w8,w9,w10,w11,w12,w13,w14,w15,w16,w17,w18,w19,w20,w21,w22,w23,w24,w25,w26,w27,w28,w29,w30,w31,w32,w33,w34,w35,w36,w37,w38,w39,w40,w41,w42,w43,w44,w45,w46,w47,w48,w49,w50,w51,w52,w53,w54,w55,w56,w57,w58,w59,w60,w61,w62,w63,w64,w65,w66,w67,w68,w69,w70,w71,w72,w73,w74,w75,w76,w77,w78,w79,r1,r2,r3,r4,r5,hz,lenT_eq,Nat.sub_zero,c1,c2,c3,c4,c5,c6,k1,k2,k3,k4,k5,hk,h5,h8,x9,Bool.not_true,Bool.not_false,Bool.and_self,Bool.true_and,cond_true,and_true,true_and,and_self,Nat.le_refl]
def st_ono4 (bs : List UInt8) (e : Int) : Sy.Steps:=[(71,40,nccC 4 0 true bs,[67,68,66,65,65]),(72,40,nccC 4 (dO1 bs) (dB1 bs) bs,[67,68,66,65,71]),(73,40,nccC 4 (dO2 bs) (dB2 bs) bs,[67,68,66,65,72]),(74,42,mc_C (.int .i64 (IntKind.i64.wrap (numV 4 0 bs : Int))) (.int .i64 (IntKind.i64.wrap (numV 4 (dO1 bs) bs : Int))) (.int .i64 (IntKind.i64.wrap (numV 4 (dO2 bs) bs : Int))) (.string ⟨⟨[]⟩⟩) (.slice none 0 0) (.slice none 0 0) (dO3 bs) (dB3 bs) bs (dCa bs) (dO4 bs) (dB4 bs),[69,67,68,66,65,73,70,70,70]),(76,40,nccC 4 (dO4 bs) (dB4 bs) bs,[67,68,66,65,74]),(77,44,takC (dK bs) (dO5 bs) bs,[66,65,76]),(78,42,mnC mrG 256 (dO6 bs) (dB6 bs) bs,[69,67,68,66,65,77,70,75,70]),(79,42,ms_C (.int .i64 (IntKind.i64.wrap (numV 4 0 bs : Int))) (.int .i64 (IntKind.i64.wrap (numV 4 (dO1 bs) bs : Int))) (.int .i64 (IntKind.i64.wrap (numV 4 (dO2 bs) bs : Int))) (.slice (some ⟨71,0,none⟩) (dCa bs).length (big + 71)) (.string ⟨⟨takV (dK bs) (dO5 bs) bs⟩⟩) (.slice none 0 0) (dO7 bs) (dB7 bs) bs (dSa bs) (dO8 bs) (dB8 bs),[69,67,68,66,65,78,70,75,70]),(81,47,lefC (dO8 bs) bs,[66,65,79]),(81,14,ckNil (IntKind.i64.wrap (numV 4 0 bs : Int)) (IntKind.i64.wrap (numV 4 (dO1 bs) bs : Int)) (IntKind.i64.wrap (numV 4 (dO2 bs) bs : Int)) (dCa bs).length (takV (dK bs) (dO5 bs) bs) (dSa bs) e,[75,70,80])]
set_option maxRecDepth 100000 in
theorem dec_ono4 (bs : List UInt8) (e : Int) (hd : DOk bs) (h5 : dB5 bs = true) (h8 : dB8 bs = true) (hle : bs.length - dO8 bs = 0) (he : e = 0) (hN : noneB 256 (dO6 bs) (dB6 bs) bs = true) (hs : ∀ x ∈ st_ono4 bs e,ConOk Try.prog x.2.1 3 x.2.2.1 ∧ FlatC x.2.2.1) : ConOk Try.prog 20 3 (yesN bs (dP bs) (dS bs) (dT bs) (dCa bs) (dSa bs) (dD bs)):=by
 have hv:=dr_ono4 bs (dO1 bs) (dO2 bs) (dO3 bs) (dO4 bs) (dO5 bs) (dO6 bs) (dO7 bs) (dO8 bs) (dK bs) (dB1 bs) (dB2 bs) (dB3 bs) (dB4 bs) (dB5 bs) (dB6 bs) (dB7 bs) (dB8 bs) (dCa bs) (dRa bs) (dSa bs) (dCa bs).length (dRa bs).length (dSa bs).length e
 refine conOk_run (run_ok (L:=100) i_names (baseF_ok (selSteps_ok hs) (noBase_ok _)) (noLoop_ok _) 10) (yesN_wf ..) hv ?_ (p:=fun l => Nat.blt l 67) (σ:=dYnσ) ?_
 rotate_left
 ·generalize dCa bs = ca
  generalize dRa bs = ra
  generalize dSa bs = sa
  exact ⟨fun l hl => (dσ_ng hl).2,⟨⟨rfl,flat_all (u32s_flat _),rfl,rfl,rfl,trivial,(flat_map (u32s_flat _)).symm⟩,⟨rfl,flat_all (u32s_flat _),rfl,rfl,rfl,trivial,(flat_map (u32s_flat _)).symm⟩,trivial⟩,rfl,⟨⟨rfl,Nat.le_refl _⟩,⟨rfl,Nat.le_refl _⟩,trivial⟩,⟨by kernel_rfl,by kernel_rfl⟩,rfl,⟨⟨rfl,rfl,flat_bnd (u32s_flat _)⟩,⟨rfl,rfl,flat_bnd (u32s_flat _)⟩,trivial⟩,rfl,okV_bnd 3 _ (by kernel_rfl),fun x hx hrw => by
  simp only [rr, tt, yesN,imgBlk,List.mem_cons,List.not_mem_nil,or_false] at hx
  rcases hx with rfl | rfl <;> cases hrw⟩
 have w0 : lift 69 71 [67,68,66,65,65] 64 = 67:=rfl
 have w1 : lift 69 71 [67,68,66,65,65] 65 = 68:=rfl
 have w2 : lift 69 71 [67,68,66,65,65] 66 = 66:=rfl
 have w3 : lift 69 71 [67,68,66,65,65] 67 = 65:=rfl
 have w4 : lift 69 71 [67,68,66,65,65] 68 = 65:=rfl
 have w5 : lift 69 71 [67,68,66,65,65] 69 = 71:=rfl
 have w6 : lift 69 71 [67,68,66,65,65] 70 = 72:=rfl
 have w7 : lift 69 71 [67,68,66,65,65] 71 = 73:=rfl
 have w8 : lift 69 72 [67,68,66,65,71] 64 = 67:=rfl
 have w9 : lift 69 72 [67,68,66,65,71] 65 = 68:=rfl
 have w10 : lift 69 72 [67,68,66,65,71] 66 = 66:=rfl
 have w11 : lift 69 72 [67,68,66,65,71] 67 = 65:=rfl
 have w12 : lift 69 72 [67,68,66,65,71] 68 = 71:=rfl
 have w13 : lift 69 72 [67,68,66,65,71] 69 = 72:=rfl
 have w14 : lift 69 72 [67,68,66,65,71] 70 = 73:=rfl
 have w15 : lift 69 72 [67,68,66,65,71] 71 = 74:=rfl
 have w16 : lift 69 73 [67,68,66,65,72] 64 = 67:=rfl
 have w17 : lift 69 73 [67,68,66,65,72] 65 = 68:=rfl
 have w18 : lift 69 73 [67,68,66,65,72] 66 = 66:=rfl
 have w19 : lift 69 73 [67,68,66,65,72] 67 = 65:=rfl
 have w20 : lift 69 73 [67,68,66,65,72] 68 = 72:=rfl
 have w21 : lift 69 73 [67,68,66,65,72] 69 = 73:=rfl
 have w22 : lift 69 73 [67,68,66,65,72] 70 = 74:=rfl
 have w23 : lift 69 73 [67,68,66,65,72] 71 = 75:=rfl
 have w24 : lift 73 74 [69,67,68,66,65,73,70,70,70] 64 = 69:=rfl
 have w25 : lift 73 74 [69,67,68,66,65,73,70,70,70] 65 = 67:=rfl
 have w26 : lift 73 74 [69,67,68,66,65,73,70,70,70] 66 = 68:=rfl
 have w27 : lift 73 74 [69,67,68,66,65,73,70,70,70] 67 = 66:=rfl
 have w28 : lift 73 74 [69,67,68,66,65,73,70,70,70] 68 = 65:=rfl
 have w29 : lift 73 74 [69,67,68,66,65,73,70,70,70] 69 = 73:=rfl
 have w30 : lift 73 74 [69,67,68,66,65,73,70,70,70] 70 = 70:=rfl
 have w31 : lift 73 74 [69,67,68,66,65,73,70,70,70] 71 = 70:=rfl
 have w32 : lift 73 74 [69,67,68,66,65,73,70,70,70] 72 = 70:=rfl
 have w33 : lift 73 74 [69,67,68,66,65,73,70,70,70] 73 = 74:=rfl
 have w34 : lift 73 74 [69,67,68,66,65,73,70,70,70] 74 = 75:=rfl
 have w35 : lift 73 74 [69,67,68,66,65,73,70,70,70] 75 = 76:=rfl
 have w36 : lift 69 76 [67,68,66,65,74] 64 = 67:=rfl
 have w37 : lift 69 76 [67,68,66,65,74] 65 = 68:=rfl
 have w38 : lift 69 76 [67,68,66,65,74] 66 = 66:=rfl
 have w39 : lift 69 76 [67,68,66,65,74] 67 = 65:=rfl
 have w40 : lift 69 76 [67,68,66,65,74] 68 = 74:=rfl
 have w41 : lift 69 76 [67,68,66,65,74] 69 = 76:=rfl
 have w42 : lift 69 76 [67,68,66,65,74] 70 = 77:=rfl
 have w43 : lift 69 76 [67,68,66,65,74] 71 = 78:=rfl
 have w44 : lift 67 77 [66,65,76] 64 = 66:=rfl
 have w45 : lift 67 77 [66,65,76] 65 = 65:=rfl
 have w46 : lift 67 77 [66,65,76] 66 = 76:=rfl
 have w47 : lift 67 77 [66,65,76] 67 = 77:=rfl
 have w48 : lift 67 77 [66,65,76] 68 = 78:=rfl
 have w49 : lift 67 77 [66,65,76] 69 = 79:=rfl
 have w50 : lift 73 78 [69,67,68,66,65,77,70,75,70] 64 = 69:=rfl
 have w51 : lift 73 78 [69,67,68,66,65,77,70,75,70] 65 = 67:=rfl
 have w52 : lift 73 78 [69,67,68,66,65,77,70,75,70] 66 = 68:=rfl
 have w53 : lift 73 78 [69,67,68,66,65,77,70,75,70] 67 = 66:=rfl
 have w54 : lift 73 78 [69,67,68,66,65,77,70,75,70] 68 = 65:=rfl
 have w55 : lift 73 78 [69,67,68,66,65,77,70,75,70] 69 = 77:=rfl
 have w56 : lift 73 78 [69,67,68,66,65,77,70,75,70] 70 = 70:=rfl
 have w57 : lift 73 78 [69,67,68,66,65,77,70,75,70] 71 = 75:=rfl
 have w58 : lift 73 78 [69,67,68,66,65,77,70,75,70] 72 = 70:=rfl
 have w59 : lift 73 78 [69,67,68,66,65,77,70,75,70] 73 = 78:=rfl
 have w60 : lift 73 78 [69,67,68,66,65,77,70,75,70] 74 = 79:=rfl
 have w61 : lift 73 78 [69,67,68,66,65,77,70,75,70] 75 = 80:=rfl
 have w62 : lift 73 79 [69,67,68,66,65,78,70,75,70] 64 = 69:=rfl
 have w63 : lift 73 79 [69,67,68,66,65,78,70,75,70] 65 = 67:=rfl
 have w64 : lift 73 79 [69,67,68,66,65,78,70,75,70] 66 = 68:=rfl
 have w65 : lift 73 79 [69,67,68,66,65,78,70,75,70] 67 = 66:=rfl
 have w66 : lift 73 79 [69,67,68,66,65,78,70,75,70] 68 = 65:=rfl
 have w67 : lift 73 79 [69,67,68,66,65,78,70,75,70] 69 = 78:=rfl
 have w68 : lift 73 79 [69,67,68,66,65,78,70,75,70] 70 = 70:=rfl
 have w69 : lift 73 79 [69,67,68,66,65,78,70,75,70] 71 = 75:=rfl
 have w70 : lift 73 79 [69,67,68,66,65,78,70,75,70] 72 = 70:=rfl
 have w71 : lift 73 79 [69,67,68,66,65,78,70,75,70] 73 = 79:=rfl
 have w72 : lift 73 79 [69,67,68,66,65,78,70,75,70] 74 = 80:=rfl
 have w73 : lift 73 79 [69,67,68,66,65,78,70,75,70] 75 = 81:=rfl
 have w74 : lift 67 81 [66,65,79] 64 = 66:=rfl
 have w75 : lift 67 81 [66,65,79] 65 = 65:=rfl
 have w76 : lift 67 81 [66,65,79] 66 = 79:=rfl
 have w77 : lift 67 81 [66,65,79] 67 = 81:=rfl
 have w78 : lift 67 81 [66,65,79] 68 = 82:=rfl
 have w79 : lift 67 81 [66,65,79] 69 = 83:=rfl
 have w80 : lift 67 81 [75,70,80] 64 = 75:=rfl
 have w81 : lift 67 81 [75,70,80] 65 = 70:=rfl
 have w82 : lift 67 81 [75,70,80] 66 = 80:=rfl
 have w83 : lift 67 81 [75,70,80] 67 = 81:=rfl
 have w84 : lift 67 81 [75,70,80] 68 = 82:=rfl
 have w85 : lift 67 81 [75,70,80] 69 = 83:=rfl
 have hu : List.map (fun (c : UInt8) => Value.int IntKind.u8 (c.toNat : Int)) bs = u8s bs:=rfl
 have f5 : ∀ xs p d,(u8s xs).all (okV p d) = true:=fun xs _ _ => flat_all (u8s_flat xs)
 have f6 : ∀ xs σ d,(u8s xs).map (rnV σ d) = u8s xs:=fun xs _ _ => flat_map (u8s_flat xs)
 have f7 : ∀ xs p d,(u32s xs).all (okV p d) = true:=fun xs _ _ => flat_all (u32s_flat xs)
 have f8 : ∀ xs σ d,(u32s xs).map (rnV σ d) = u32s xs:=fun xs _ _ => flat_map (u32s_flat xs)
 have f9 : ∀ xs p d,(rels xs).all (okV p d) = true:=fun xs _ _ => flat_all (rels_flat xs)
 have f10 : ∀ xs σ d,(rels xs).map (rnV σ d) = rels xs:=fun xs _ _ => flat_map (rels_flat xs)
 have r1 : ∀ o : Nat,okV (fun l => Nat.blt l 69) 3 (rdV 67 o bs 68) = true:=fun o => rdV_ok rfl rfl
 have r2 : ∀ o : Nat,okV (fun l => Nat.blt l 73) 3 (rdV 68 o bs 69) = true:=fun o => rdV_ok rfl rfl
 have r3 : ∀ o : Nat,okV (fun l => Nat.blt l 67) 3 (rdV 65 o bs 66) = true:=fun o => rdV_ok rfl rfl
 have r4 : ∀ n : Nat,okV (fun l => Nat.blt l 73) 3 (slO 71 n) = true:=fun o => slO_ok rfl
 have r5 : ∀ n : Nat,okV (fun l => Nat.blt l 73) 3 (slO 72 n) = true:=fun o => slO_ok rfl
 have hz : [rdV 65 0 bs 65] = [Value.slice (some { block:=65,off:=0 }) bs.length 9223372036854775873]:=by rw [rdV_zero]; rfl
 have hk : IntKind.i64.wrap (dK bs : Int) = (dK bs : Int):=wrap_i64 (by omega) (by have:=numV_lt (off:=dO4 bs) (bs:=bs); unfold dK; omega)
 have c1 : numO 4 0 bs = dO1 bs:=rfl
 have c2 : numO 4 (dO1 bs) bs = dO2 bs:=rfl
 have c3 : numO 4 (dO2 bs) bs = dO3 bs:=rfl
 have c4 : numO 4 (dO4 bs) bs = dO5 bs:=rfl
 have c5 : takO (dK bs) (dO5 bs) bs = dO6 bs:=rfl
 have c6 : numV 4 (dO4 bs) bs = dK bs:=rfl
 have k1 : numIs 4 0 bs = dB1 bs:=rfl
 have k2 : (dB1 bs && numIs 4 (dO1 bs) bs) = dB2 bs:=rfl
 have k3 : (dB2 bs && numIs 4 (dO2 bs) bs) = dB3 bs:=rfl
 have k4 : (dB4 bs && numIs 4 (dO4 bs) bs) = dB5 bs:=rfl
 have k5 : takIs (dK bs) (dO5 bs) bs = dB6 bs:=by unfold dB6; rw [h5]; rfl
 have x9 : (((bs.length - dO8 bs : Nat) : Int) != 0) = false:=by rw [hle]; rfl
 have x10 : (e != 0) = false:=by simpa using he
 have n1 : manyW 256 (dO6 bs) (dB6 bs) bs = dB7 bs:=by unfold dB7 anRb; rw [hN]; rfl
 have n2 : numO 4 (dO6 bs) bs = dO7 bs:=by unfold dO7 anRo; rw [hN]; rfl
 simp only [rr, tt, hu,f5,f6,f7,f8,f9,f10,rdV_rn,slO_rn,imgO_rn,like_slO,isLike_slO,one_slO,w0,w1,w2,w3,w4,w5,w6,w7,w8,w9,w10,w11,w12,w13,w14,w15,w16,w17,w18,w19,w20,w21,w22,w23,w24,w25,w26,w27,w28,w29,w30,w31,w32,w33,w34,w35,w36,w37,w38,w39,w40,w41,w42,w43,w44,w45,w46,w47,w48,w49,w50,w51,w52,w53,w54,w55,w56,w57,w58,w59,w60,w61,w62,w63,w64,w65,w66,w67,w68,w69,w70,w71,w72,w73,w74,w75,w76,w77,w78,w79,w80,w81,w82,w83,w84,w85,r1,r2,r3,r4,r5,hz,lenT_eq,Nat.sub_zero,c1,c2,c3,c4,c5,c6,k1,k2,k3,k4,k5,n1,n2,hk,h5,h8,x9,x10,Bool.not_true,Bool.not_false,Bool.and_self,Bool.true_and,cond_true,and_true,true_and,and_self,Nat.le_refl]
def st_ooo4 (bs : List UInt8) (e : Int) : Sy.Steps:=[(71,40,nccC 4 0 true bs,[67,68,66,65,65]),(72,40,nccC 4 (dO1 bs) (dB1 bs) bs,[67,68,66,65,71]),(73,40,nccC 4 (dO2 bs) (dB2 bs) bs,[67,68,66,65,72]),(74,42,mc_C (.int .i64 (IntKind.i64.wrap (numV 4 0 bs : Int))) (.int .i64 (IntKind.i64.wrap (numV 4 (dO1 bs) bs : Int))) (.int .i64 (IntKind.i64.wrap (numV 4 (dO2 bs) bs : Int))) (.string ⟨⟨[]⟩⟩) (.slice none 0 0) (.slice none 0 0) (dO3 bs) (dB3 bs) bs (dCa bs) (dO4 bs) (dB4 bs),[69,67,68,66,65,73,70,70,70]),(76,40,nccC 4 (dO4 bs) (dB4 bs) bs,[67,68,66,65,74]),(77,44,takC (dK bs) (dO5 bs) bs,[66,65,76]),(78,42,mr_C (.int .i64 (IntKind.i64.wrap (numV 4 0 bs : Int))) (.int .i64 (IntKind.i64.wrap (numV 4 (dO1 bs) bs : Int))) (.int .i64 (IntKind.i64.wrap (numV 4 (dO2 bs) bs : Int))) (.slice (some ⟨71,0,none⟩) (dCa bs).length (big + 71)) (.string ⟨⟨takV (dK bs) (dO5 bs) bs⟩⟩) (.slice none 0 0) (dO6 bs) (dB6 bs) bs (dRa bs) (dO7 bs) (dB7 bs),[69,67,68,66,65,77,70,75,70]),(80,42,ms_C (.int .i64 (IntKind.i64.wrap (numV 4 0 bs : Int))) (.int .i64 (IntKind.i64.wrap (numV 4 (dO1 bs) bs : Int))) (.int .i64 (IntKind.i64.wrap (numV 4 (dO2 bs) bs : Int))) (.slice (some ⟨71,0,none⟩) (dCa bs).length (big + 71)) (.string ⟨⟨takV (dK bs) (dO5 bs) bs⟩⟩) (.slice (some ⟨72,0,none⟩) (dRa bs).length (big + 72)) (dO7 bs) (dB7 bs) bs (dSa bs) (dO8 bs) (dB8 bs),[69,67,68,66,65,78,70,75,79]),(82,47,lefC (dO8 bs) bs,[66,65,80]),(82,14,imD (IntKind.i64.wrap (numV 4 0 bs : Int)) (IntKind.i64.wrap (numV 4 (dO1 bs) bs : Int)) (IntKind.i64.wrap (numV 4 (dO2 bs) bs : Int)) (dCa bs).length (takV (dK bs) (dO5 bs) bs) (dRa bs) (dSa bs) (.int .i64 e),[75,79,81])]
set_option maxRecDepth 100000 in
theorem dec_ooo4 (bs : List UInt8) (e : Int) (hd : DOk bs) (h5 : dB5 bs = true) (h8 : dB8 bs = true) (hle : bs.length - dO8 bs = 0) (he : e = 0) (hs : ∀ x ∈ st_ooo4 bs e,ConOk Try.prog x.2.1 3 x.2.2.1 ∧ FlatC x.2.2.1) : ConOk Try.prog 20 3 (yesO bs (dP bs) (dS bs) (dT bs) (dCa bs) (dRa bs) (dSa bs) (dD bs)):=by
 have hv:=dr_ooo4 bs (dO1 bs) (dO2 bs) (dO3 bs) (dO4 bs) (dO5 bs) (dO6 bs) (dO7 bs) (dO8 bs) (dK bs) (dB1 bs) (dB2 bs) (dB3 bs) (dB4 bs) (dB5 bs) (dB6 bs) (dB7 bs) (dB8 bs) (dCa bs) (dRa bs) (dSa bs) (dCa bs).length (dRa bs).length (dSa bs).length e
 refine conOk_run (run_ok (L:=100) i_names (baseF_ok (selSteps_ok hs) (noBase_ok _)) (noLoop_ok _) 10) (yesO_wf ..) hv ?_ (p:=fun l => Nat.blt l 67) (σ:=dYoσ) ?_
 rotate_left
 ·generalize dCa bs = ca
  generalize dRa bs = ra
  generalize dSa bs = sa
  exact ⟨fun l hl => (dσ_ng hl).1,⟨⟨rfl,flat_all (u32s_flat _),rfl,rfl,rfl,trivial,(flat_map (u32s_flat _)).symm⟩,⟨rfl,flat_all (rels_flat _),rfl,rfl,rfl,trivial,(flat_map (rels_flat _)).symm⟩,⟨rfl,flat_all (u32s_flat _),rfl,rfl,rfl,trivial,(flat_map (u32s_flat _)).symm⟩,trivial⟩,rfl,⟨⟨rfl,Nat.le_refl _⟩,⟨rfl,Nat.le_refl _⟩,⟨rfl,Nat.le_refl _⟩,trivial⟩,⟨by kernel_rfl,by kernel_rfl⟩,rfl,⟨⟨rfl,rfl,flat_bnd (u32s_flat _)⟩,⟨rfl,rfl,flat_bnd (rels_flat _)⟩,⟨rfl,rfl,flat_bnd (u32s_flat _)⟩,trivial⟩,rfl,okV_bnd 3 _ (by kernel_rfl),fun x hx hrw => by
  simp only [rr, tt, yesO,imgBlk,List.mem_cons,List.not_mem_nil,or_false] at hx
  rcases hx with rfl | rfl | rfl <;> cases hrw⟩
 have w0 : lift 69 71 [67,68,66,65,65] 64 = 67:=rfl
 have w1 : lift 69 71 [67,68,66,65,65] 65 = 68:=rfl
 have w2 : lift 69 71 [67,68,66,65,65] 66 = 66:=rfl
 have w3 : lift 69 71 [67,68,66,65,65] 67 = 65:=rfl
 have w4 : lift 69 71 [67,68,66,65,65] 68 = 65:=rfl
 have w5 : lift 69 71 [67,68,66,65,65] 69 = 71:=rfl
 have w6 : lift 69 71 [67,68,66,65,65] 70 = 72:=rfl
 have w7 : lift 69 71 [67,68,66,65,65] 71 = 73:=rfl
 have w8 : lift 69 72 [67,68,66,65,71] 64 = 67:=rfl
 have w9 : lift 69 72 [67,68,66,65,71] 65 = 68:=rfl
 have w10 : lift 69 72 [67,68,66,65,71] 66 = 66:=rfl
 have w11 : lift 69 72 [67,68,66,65,71] 67 = 65:=rfl
 have w12 : lift 69 72 [67,68,66,65,71] 68 = 71:=rfl
 have w13 : lift 69 72 [67,68,66,65,71] 69 = 72:=rfl
 have w14 : lift 69 72 [67,68,66,65,71] 70 = 73:=rfl
 have w15 : lift 69 72 [67,68,66,65,71] 71 = 74:=rfl
 have w16 : lift 69 73 [67,68,66,65,72] 64 = 67:=rfl
 have w17 : lift 69 73 [67,68,66,65,72] 65 = 68:=rfl
 have w18 : lift 69 73 [67,68,66,65,72] 66 = 66:=rfl
 have w19 : lift 69 73 [67,68,66,65,72] 67 = 65:=rfl
 have w20 : lift 69 73 [67,68,66,65,72] 68 = 72:=rfl
 have w21 : lift 69 73 [67,68,66,65,72] 69 = 73:=rfl
 have w22 : lift 69 73 [67,68,66,65,72] 70 = 74:=rfl
 have w23 : lift 69 73 [67,68,66,65,72] 71 = 75:=rfl
 have w24 : lift 73 74 [69,67,68,66,65,73,70,70,70] 64 = 69:=rfl
 have w25 : lift 73 74 [69,67,68,66,65,73,70,70,70] 65 = 67:=rfl
 have w26 : lift 73 74 [69,67,68,66,65,73,70,70,70] 66 = 68:=rfl
 have w27 : lift 73 74 [69,67,68,66,65,73,70,70,70] 67 = 66:=rfl
 have w28 : lift 73 74 [69,67,68,66,65,73,70,70,70] 68 = 65:=rfl
 have w29 : lift 73 74 [69,67,68,66,65,73,70,70,70] 69 = 73:=rfl
 have w30 : lift 73 74 [69,67,68,66,65,73,70,70,70] 70 = 70:=rfl
 have w31 : lift 73 74 [69,67,68,66,65,73,70,70,70] 71 = 70:=rfl
 have w32 : lift 73 74 [69,67,68,66,65,73,70,70,70] 72 = 70:=rfl
 have w33 : lift 73 74 [69,67,68,66,65,73,70,70,70] 73 = 74:=rfl
 have w34 : lift 73 74 [69,67,68,66,65,73,70,70,70] 74 = 75:=rfl
 have w35 : lift 73 74 [69,67,68,66,65,73,70,70,70] 75 = 76:=rfl
 have w36 : lift 69 76 [67,68,66,65,74] 64 = 67:=rfl
 have w37 : lift 69 76 [67,68,66,65,74] 65 = 68:=rfl
 have w38 : lift 69 76 [67,68,66,65,74] 66 = 66:=rfl
 have w39 : lift 69 76 [67,68,66,65,74] 67 = 65:=rfl
 have w40 : lift 69 76 [67,68,66,65,74] 68 = 74:=rfl
 have w41 : lift 69 76 [67,68,66,65,74] 69 = 76:=rfl
 have w42 : lift 69 76 [67,68,66,65,74] 70 = 77:=rfl
 have w43 : lift 69 76 [67,68,66,65,74] 71 = 78:=rfl
 have w44 : lift 67 77 [66,65,76] 64 = 66:=rfl
 have w45 : lift 67 77 [66,65,76] 65 = 65:=rfl
 have w46 : lift 67 77 [66,65,76] 66 = 76:=rfl
 have w47 : lift 67 77 [66,65,76] 67 = 77:=rfl
 have w48 : lift 67 77 [66,65,76] 68 = 78:=rfl
 have w49 : lift 67 77 [66,65,76] 69 = 79:=rfl
 have w50 : lift 73 78 [69,67,68,66,65,77,70,75,70] 64 = 69:=rfl
 have w51 : lift 73 78 [69,67,68,66,65,77,70,75,70] 65 = 67:=rfl
 have w52 : lift 73 78 [69,67,68,66,65,77,70,75,70] 66 = 68:=rfl
 have w53 : lift 73 78 [69,67,68,66,65,77,70,75,70] 67 = 66:=rfl
 have w54 : lift 73 78 [69,67,68,66,65,77,70,75,70] 68 = 65:=rfl
 have w55 : lift 73 78 [69,67,68,66,65,77,70,75,70] 69 = 77:=rfl
 have w56 : lift 73 78 [69,67,68,66,65,77,70,75,70] 70 = 70:=rfl
 have w57 : lift 73 78 [69,67,68,66,65,77,70,75,70] 71 = 75:=rfl
 have w58 : lift 73 78 [69,67,68,66,65,77,70,75,70] 72 = 70:=rfl
 have w59 : lift 73 78 [69,67,68,66,65,77,70,75,70] 73 = 78:=rfl
 have w60 : lift 73 78 [69,67,68,66,65,77,70,75,70] 74 = 79:=rfl
 have w61 : lift 73 78 [69,67,68,66,65,77,70,75,70] 75 = 80:=rfl
 have w62 : lift 73 80 [69,67,68,66,65,78,70,75,79] 64 = 69:=rfl
 have w63 : lift 73 80 [69,67,68,66,65,78,70,75,79] 65 = 67:=rfl
 have w64 : lift 73 80 [69,67,68,66,65,78,70,75,79] 66 = 68:=rfl
 have w65 : lift 73 80 [69,67,68,66,65,78,70,75,79] 67 = 66:=rfl
 have w66 : lift 73 80 [69,67,68,66,65,78,70,75,79] 68 = 65:=rfl
 have w67 : lift 73 80 [69,67,68,66,65,78,70,75,79] 69 = 78:=rfl
 have w68 : lift 73 80 [69,67,68,66,65,78,70,75,79] 70 = 70:=rfl
 have w69 : lift 73 80 [69,67,68,66,65,78,70,75,79] 71 = 75:=rfl
 have w70 : lift 73 80 [69,67,68,66,65,78,70,75,79] 72 = 79:=rfl
 have w71 : lift 73 80 [69,67,68,66,65,78,70,75,79] 73 = 80:=rfl
 have w72 : lift 73 80 [69,67,68,66,65,78,70,75,79] 74 = 81:=rfl
 have w73 : lift 73 80 [69,67,68,66,65,78,70,75,79] 75 = 82:=rfl
 have w74 : lift 67 82 [66,65,80] 64 = 66:=rfl
 have w75 : lift 67 82 [66,65,80] 65 = 65:=rfl
 have w76 : lift 67 82 [66,65,80] 66 = 80:=rfl
 have w77 : lift 67 82 [66,65,80] 67 = 82:=rfl
 have w78 : lift 67 82 [66,65,80] 68 = 83:=rfl
 have w79 : lift 67 82 [66,65,80] 69 = 84:=rfl
 have w80 : lift 67 82 [75,79,81] 64 = 75:=rfl
 have w81 : lift 67 82 [75,79,81] 65 = 79:=rfl
 have w82 : lift 67 82 [75,79,81] 66 = 81:=rfl
 have w83 : lift 67 82 [75,79,81] 67 = 82:=rfl
 have w84 : lift 67 82 [75,79,81] 68 = 83:=rfl
 have w85 : lift 67 82 [75,79,81] 69 = 84:=rfl
 have hu : List.map (fun (c : UInt8) => Value.int IntKind.u8 (c.toNat : Int)) bs = u8s bs:=rfl
 have f5 : ∀ xs p d,(u8s xs).all (okV p d) = true:=fun xs _ _ => flat_all (u8s_flat xs)
 have f6 : ∀ xs σ d,(u8s xs).map (rnV σ d) = u8s xs:=fun xs _ _ => flat_map (u8s_flat xs)
 have f7 : ∀ xs p d,(u32s xs).all (okV p d) = true:=fun xs _ _ => flat_all (u32s_flat xs)
 have f8 : ∀ xs σ d,(u32s xs).map (rnV σ d) = u32s xs:=fun xs _ _ => flat_map (u32s_flat xs)
 have f9 : ∀ xs p d,(rels xs).all (okV p d) = true:=fun xs _ _ => flat_all (rels_flat xs)
 have f10 : ∀ xs σ d,(rels xs).map (rnV σ d) = rels xs:=fun xs _ _ => flat_map (rels_flat xs)
 have r1 : ∀ o : Nat,okV (fun l => Nat.blt l 69) 3 (rdV 67 o bs 68) = true:=fun o => rdV_ok rfl rfl
 have r2 : ∀ o : Nat,okV (fun l => Nat.blt l 73) 3 (rdV 68 o bs 69) = true:=fun o => rdV_ok rfl rfl
 have r3 : ∀ o : Nat,okV (fun l => Nat.blt l 67) 3 (rdV 65 o bs 66) = true:=fun o => rdV_ok rfl rfl
 have r4 : ∀ n : Nat,okV (fun l => Nat.blt l 73) 3 (slO 71 n) = true:=fun o => slO_ok rfl
 have r5 : ∀ n : Nat,okV (fun l => Nat.blt l 73) 3 (slO 72 n) = true:=fun o => slO_ok rfl
 have hz : [rdV 65 0 bs 65] = [Value.slice (some { block:=65,off:=0 }) bs.length 9223372036854775873]:=by rw [rdV_zero]; rfl
 have hk : IntKind.i64.wrap (dK bs : Int) = (dK bs : Int):=wrap_i64 (by omega) (by have:=numV_lt (off:=dO4 bs) (bs:=bs); unfold dK; omega)
 have c1 : numO 4 0 bs = dO1 bs:=rfl
 have c2 : numO 4 (dO1 bs) bs = dO2 bs:=rfl
 have c3 : numO 4 (dO2 bs) bs = dO3 bs:=rfl
 have c4 : numO 4 (dO4 bs) bs = dO5 bs:=rfl
 have c5 : takO (dK bs) (dO5 bs) bs = dO6 bs:=rfl
 have c6 : numV 4 (dO4 bs) bs = dK bs:=rfl
 have k1 : numIs 4 0 bs = dB1 bs:=rfl
 have k2 : (dB1 bs && numIs 4 (dO1 bs) bs) = dB2 bs:=rfl
 have k3 : (dB2 bs && numIs 4 (dO2 bs) bs) = dB3 bs:=rfl
 have k4 : (dB4 bs && numIs 4 (dO4 bs) bs) = dB5 bs:=rfl
 have k5 : takIs (dK bs) (dO5 bs) bs = dB6 bs:=by unfold dB6; rw [h5]; rfl
 have x9 : (((bs.length - dO8 bs : Nat) : Int) != 0) = false:=by rw [hle]; rfl
 have x10 : (e != 0) = false:=by simpa using he
 simp only [rr, tt, hu,f5,f6,f7,f8,f9,f10,rdV_rn,slO_rn,imgO_rn,like_slO,isLike_slO,one_slO,w0,w1,w2,w3,w4,w5,w6,w7,w8,w9,w10,w11,w12,w13,w14,w15,w16,w17,w18,w19,w20,w21,w22,w23,w24,w25,w26,w27,w28,w29,w30,w31,w32,w33,w34,w35,w36,w37,w38,w39,w40,w41,w42,w43,w44,w45,w46,w47,w48,w49,w50,w51,w52,w53,w54,w55,w56,w57,w58,w59,w60,w61,w62,w63,w64,w65,w66,w67,w68,w69,w70,w71,w72,w73,w74,w75,w76,w77,w78,w79,w80,w81,w82,w83,w84,w85,r1,r2,r3,r4,r5,hz,lenT_eq,Nat.sub_zero,c1,c2,c3,c4,c5,c6,k1,k2,k3,k4,k5,hk,h5,h8,x9,x10,Bool.not_true,Bool.not_false,Bool.and_self,Bool.true_and,cond_true,and_true,true_and,and_self,Nat.le_refl]
end Go.Proofs.Ytdljpnebpoaeiaa
namespace Go.Proofs.Ytdljpnebpoaeiaa
open Go.RowKit
open Sy
section
variable {P : Program} {call : CallK} {f : FuncId} {d : Nat}
end
def imgVZ (pages stack types : Int) (nc nr ns : Nat) (data : List UInt8) : Value :=
 .agg ⟨[.int .i64 pages,.int .i64 stack,.int .i64 types,.slice (some ⟨64,0,none⟩) nc (big + 64),.string ⟨⟨data⟩⟩,.slice none 0 0,.slice (some ⟨66,0,none⟩) ns (big + 66)]⟩
def laySZ (rs : List Rl) (starts : List Nat) (T : List (Nat × Bool)) : St:=⟨67,[(66,⟨false,some (0,0),u32s starts,none⟩)],[],0,T,0,True⟩
def imgLZ (pages stack types : Int) (nc nr ns : Nat) (data : List UInt8) : List Value :=
 [.int .i64 pages,.int .i64 stack,.int .i64 types,.slice (some ⟨64,0,none⟩) nc (big + 64),.string ⟨⟨data⟩⟩,.slice none 0 0,.slice (some ⟨66,0,none⟩) ns (big + 66)]
def stIZ (pages stack types : Int) (nc nr : Nat) (data : List UInt8) (starts : List Nat) (k : Nat) : Sf :=
 ⟨71,[(0,.slice (some ⟨66,0,none⟩) starts.length (big + 66)),(1,.func (.func 25) ⟨[]⟩ ⟨[.pointer (some ⟨67,0,none⟩)]⟩),(7,.int .i64 (starts.length : Nat)),(8,.int .i64 (k : Nat))],
  [(66,⟨false,some (0,0),u32s starts,none⟩),(67,⟨false,none,imgLZ pages stack types nc nr starts.length data,none⟩)],[]⟩
def layCZ (pages stack types : Int) (nc nr ns : Nat) (data : List UInt8) : Con:=⟨[imgVZ pages stack types nc nr ns data],67,[],[],layR pages stack nc ns data.length,67,[],[]⟩
def imHZ (rs : List Rl) (starts : List Nat) : Sy.Heap:=[(66,⟨false,some (0,0),u32s starts,none⟩)]
def imCZ (pages stack types : Int) (nc : Nat) (data : List UInt8) (rs : List Rl) (starts : List Nat) (v : Value) : Con:=⟨[imgVZ pages stack types nc rs.length starts.length data],67,imHZ rs starts,[],v,67,imHZ rs starts,[]⟩
theorem st_aZ (pages : Int) (stack : Int) (types : Int) (nc : Nat) (nr : Nat) (data : List UInt8) (starts : List Nat) (k : Nat) : evC Try.prog (evF Try.prog noBase noLoop 100 3) (noLoop 50) 19 100 (loopOf Try.prog 50 0) (Sf.frT 19 (stIZ pages stack types nc nr data starts k) [(0,true),(1,true)]) = some (Exit.ret,{ e:=[[Value.slice (some ⟨66,0,none⟩) starts.length 9223372036854775874,.func (Fn.func 25) { toList:=[] } { toList:=[Value.pointer (some ⟨67,0,none⟩)] },unk,unk,.int .i64 (↑k),.int .i64 (↑k),unk,.int .i64 (↑starts.length),.int .i64 (↑k),.bool (decide ((↑k : Int) < (↑starts.length : Int))),.int .i64 (↑k),.func (Fn.func 25) { toList:=[] } { toList:=[Value.pointer (some ⟨67,0,none⟩)] },.slice (some ⟨66,0,none⟩) starts.length 9223372036854775874,.int .i64 (↑k),.pointer (some { block:=66,off:=0 + (↑k : Int).toNat * 1 }),.int .u32 (intOf' (getD' undef (u32s starts) (0 + (↑k : Int).toNat * 1)))],[Value.bool (decide (IntKind.i64.wrap (intOf' (getD' undef (u32s starts) (0 + (↑k : Int).toNat * 1))) ≥ (↑nc : Int))),.int .i64 (↑k),unk,unk,unk,unk,unk,unk,unk,unk,unk,unk,unk,unk,unk,unk]],s:={ n:=71,h:=[(66,⟨false,some (0,0),u32s starts,none⟩),(67,⟨false,none,[Value.int .i64 pages,.int .i64 stack,.int .i64 types,.slice (some ⟨64,0,none⟩) nc 9223372036854775872,.string ⟨⟨data⟩⟩,.slice none 0 0,.slice (some ⟨66,0,none⟩) starts.length 9223372036854775874],none⟩)],lo:=[],esc:=0,T:=[],k:=2,O:=(bif hasN (0 + (↑k : Int).toNat * 1 + 1) (u32s starts) && isLikeL [Value.int .u32 0] (u32s starts) (0 + (↑k : Int).toNat * 1) then bif decide ((0 : Int) ≤ (↑k : Int)) && decide ((↑k : Int) < (↑starts.length : Int)) then True ∧ decide ((↑k : Int) < (↑starts.length : Int)) = true else False else False) ∧ decide (IntKind.i64.wrap (intOf' (getD' undef (u32s starts) (0 + (↑k : Int).toNat * 1))) ≥ (↑nc : Int)) = true : St } : Fr }):=by kernel_rfl
theorem st_bZ (pages : Int) (stack : Int) (types : Int) (nc : Nat) (nr : Nat) (data : List UInt8) (starts : List Nat) (k : Nat) : evC Try.prog (evF Try.prog noBase noLoop 100 3) (noLoop 50) 19 100 (loopOf Try.prog 50 0) (Sf.frT 19 (stIZ pages stack types nc nr data starts k) [(0,true),(1,false)]) = some (Exit.normal,{ e:=[[Value.slice (some ⟨66,0,none⟩) starts.length 9223372036854775874,.func (Fn.func 25) { toList:=[] } { toList:=[Value.pointer (some ⟨67,0,none⟩)] },unk,unk,unk,.int .i64 (↑k),unk,.int .i64 (↑starts.length),.int .i64 (IntKind.i64.wrap ((↑k : Int) + (1 : Int))),.bool (decide ((↑k : Int) < (↑starts.length : Int))),.int .i64 (↑k),.func (Fn.func 25) { toList:=[] } { toList:=[Value.pointer (some ⟨67,0,none⟩)] },.slice (some ⟨66,0,none⟩) starts.length 9223372036854775874,.int .i64 (↑k),.pointer (some { block:=66,off:=0 + (↑k : Int).toNat * 1 }),.int .u32 (intOf' (getD' undef (u32s starts) (0 + (↑k : Int).toNat * 1)))],[Value.bool (decide (IntKind.i64.wrap (intOf' (getD' undef (u32s starts) (0 + (↑k : Int).toNat * 1))) ≥ (↑nc : Int))),unk,.int .i64 (IntKind.i64.wrap ((↑k : Int) + (1 : Int))),unk,unk,unk,unk,unk,unk,unk,unk,unk,unk,unk,unk,unk]],s:={ n:=71,h:=[(66,⟨false,some (0,0),u32s starts,none⟩),(67,⟨false,none,[Value.int .i64 pages,.int .i64 stack,.int .i64 types,.slice (some ⟨64,0,none⟩) nc 9223372036854775872,.string ⟨⟨data⟩⟩,.slice none 0 0,.slice (some ⟨66,0,none⟩) starts.length 9223372036854775874],none⟩)],lo:=[],esc:=0,T:=[],k:=2,O:=(bif hasN (0 + (↑k : Int).toNat * 1 + 1) (u32s starts) && isLikeL [Value.int .u32 0] (u32s starts) (0 + (↑k : Int).toNat * 1) then bif decide ((0 : Int) ≤ (↑k : Int)) && decide ((↑k : Int) < (↑starts.length : Int)) then True ∧ decide ((↑k : Int) < (↑starts.length : Int)) = true else False else False) ∧ decide (IntKind.i64.wrap (intOf' (getD' undef (u32s starts) (0 + (↑k : Int).toNat * 1))) ≥ (↑nc : Int)) = false : St } : Fr }):=by kernel_rfl
theorem st_cZ (pages : Int) (stack : Int) (types : Int) (nc : Nat) (nr : Nat) (data : List UInt8) (starts : List Nat) (k : Nat) : evC Try.prog (evF Try.prog noBase noLoop 100 3) (noLoop 50) 19 100 (loopOf Try.prog 50 0) (Sf.frT 19 (stIZ pages stack types nc nr data starts k) [(0,false)]) = some (Exit.exit 0,{ e:=[[Value.slice (some ⟨66,0,none⟩) starts.length 9223372036854775874,.func (Fn.func 25) { toList:=[] } { toList:=[Value.pointer (some ⟨67,0,none⟩)] },unk,unk,unk,unk,unk,.int .i64 (↑starts.length),.int .i64 (↑k),.bool (decide ((↑k : Int) < (↑starts.length : Int))),unk,unk,unk,unk,unk,unk],[unk,unk,unk,unk,unk,unk,unk,unk,unk,unk,unk,unk,unk,unk,unk,unk]],s:={ n:=71,h:=[(66,⟨false,some (0,0),u32s starts,none⟩),(67,⟨false,none,[Value.int .i64 pages,.int .i64 stack,.int .i64 types,.slice (some ⟨64,0,none⟩) nc 9223372036854775872,.string ⟨⟨data⟩⟩,.slice none 0 0,.slice (some ⟨66,0,none⟩) starts.length 9223372036854775874],none⟩)],lo:=[],esc:=0,T:=[],k:=1,O:=True ∧ decide ((↑k : Int) < (↑starts.length : Int)) = false : St } : Fr }):=by kernel_rfl
theorem layout_bigZ (pages stack types : Int) (nc nr ns : Nat) (data : List UInt8) : evF Try.prog (baseC 3 selJ) noLoop 100 10 26 [imgVZ pages stack types nc nr ns data] ⟨67,[],[],0,[(0,true)],0,True⟩ = some (Value.tuple { toList:=[Value.agg ⟨[.int .u32 0,.int .u32 0,.int .u32 0,.int .u32 0,.int .u32 0,.int .u32 0,.int .u32 0,.int .u32 0]⟩,.bool false] },{ n:=77,h:=[],lo:=[],esc:=0,T:=[],k:=1,O:=((True∧((0:Int) ≤ IntKind.i64.wrap ((4:Int) * (↑nc:Int))∧IntKind.i64.wrap ((4:Int) * (↑nc:Int)) ≤ (100000:Int))∧(rr (Value.int .i64 (IntKind.i64.wrap ((4:Int) * (↑nc:Int))))∧True)∧True∧True)∧((0:Int) ≤ (↑(lenT data):Int)∧(↑(lenT data):Int) ≤ (100000:Int))∧(rr (Value.int .i64 (↑(lenT data)))∧True)∧True∧True)∧decide (IntKind.u32.wrap (IntKind.u32.wrap (bits BinOp.andNot IntKind.u32 (IntKind.u32.wrap (IntKind.u32.wrap (IntKind.u32.wrap (bits BinOp.andNot IntKind.u32 (IntKind.u32.wrap (IntKind.u32.wrap (IntKind.u32.wrap ((0:Int)+(↑(r256 (IntKind.i64.wrap ((4:Int) * (↑nc:Int))).toNat):Int))+(256:Int)) - (1:Int))) (255:Int)+(↑(r256 (↑(lenT data):Int).toNat):Int))+(256:Int)) - (1:Int))) (255:Int)+IntKind.u32.wrap (IntKind.i64.wrap (stack * (↑ns:Int))))+(256:Int)) > IntKind.u32.wrap (IntKind.u32.wrap pages * (256:Int))) = true : St }):=by kernel_rfl
theorem layout_okZ (pages stack types : Int) (nc nr ns : Nat) (data : List UInt8) : evF Try.prog (baseC 3 selJ) noLoop 100 10 26 [imgVZ pages stack types nc nr ns data] ⟨67,[],[],0,[(0,false)],0,True⟩ = some (Value.tuple { toList:=[Value.agg ⟨[.int .u32 0,.int .u32 (↑(r256 (IntKind.i64.wrap ((4:Int) * (↑nc:Int))).toNat):Int),.int .u32 (bits BinOp.andNot IntKind.u32 (IntKind.u32.wrap (IntKind.u32.wrap (IntKind.u32.wrap ((0:Int)+(↑(r256 (IntKind.i64.wrap ((4:Int) * (↑nc:Int))).toNat):Int))+(256:Int)) - (1:Int))) (255:Int)),.int .u32 (↑(r256 (↑(lenT data):Int).toNat):Int),.int .u32 (bits BinOp.andNot IntKind.u32 (IntKind.u32.wrap (IntKind.u32.wrap (IntKind.u32.wrap (bits BinOp.andNot IntKind.u32 (IntKind.u32.wrap (IntKind.u32.wrap (IntKind.u32.wrap ((0:Int)+(↑(r256 (IntKind.i64.wrap ((4:Int) * (↑nc:Int))).toNat):Int))+(256:Int)) - (1:Int))) (255:Int)+(↑(r256 (↑(lenT data):Int).toNat):Int))+(256:Int)) - (1:Int))) (255:Int)),.int .u32 (IntKind.u32.wrap (IntKind.i64.wrap (stack * (↑ns:Int)))),.int .u32 (bits BinOp.andNot IntKind.u32 (IntKind.u32.wrap (IntKind.u32.wrap (IntKind.u32.wrap (bits BinOp.andNot IntKind.u32 (IntKind.u32.wrap (IntKind.u32.wrap (IntKind.u32.wrap (bits BinOp.andNot IntKind.u32 (IntKind.u32.wrap (IntKind.u32.wrap (IntKind.u32.wrap ((0:Int)+(↑(r256 (IntKind.i64.wrap ((4:Int) * (↑nc:Int))).toNat):Int))+(256:Int)) - (1:Int))) (255:Int)+(↑(r256 (↑(lenT data):Int).toNat):Int))+(256:Int)) - (1:Int))) (255:Int)+IntKind.u32.wrap (IntKind.i64.wrap (stack * (↑ns:Int))))+(256:Int)) - (1:Int))) (255:Int)),.int .u32 (IntKind.u32.wrap (IntKind.u32.wrap (IntKind.u32.wrap pages * (256:Int)) - IntKind.u32.wrap (bits BinOp.andNot IntKind.u32 (IntKind.u32.wrap (IntKind.u32.wrap (IntKind.u32.wrap (bits BinOp.andNot IntKind.u32 (IntKind.u32.wrap (IntKind.u32.wrap (IntKind.u32.wrap ((0:Int)+(↑(r256 (IntKind.i64.wrap ((4:Int) * (↑nc:Int))).toNat):Int))+(256:Int)) - (1:Int))) (255:Int)+(↑(r256 (↑(lenT data):Int).toNat):Int))+(256:Int)) - (1:Int))) (255:Int)+IntKind.u32.wrap (IntKind.i64.wrap (stack * (↑ns:Int))))))]⟩,.bool true] },{ n:=79,h:=[],lo:=[],esc:=0,T:=[],k:=1,O:=((True∧((0:Int) ≤ IntKind.i64.wrap ((4:Int) * (↑nc:Int))∧IntKind.i64.wrap ((4:Int) * (↑nc:Int)) ≤ (100000:Int))∧(rr (Value.int .i64 (IntKind.i64.wrap ((4:Int) * (↑nc:Int))))∧True)∧True∧True)∧((0:Int) ≤ (↑(lenT data):Int)∧(↑(lenT data):Int) ≤ (100000:Int))∧(rr (Value.int .i64 (↑(lenT data)))∧True)∧True∧True)∧decide (IntKind.u32.wrap (IntKind.u32.wrap (bits BinOp.andNot IntKind.u32 (IntKind.u32.wrap (IntKind.u32.wrap (IntKind.u32.wrap (bits BinOp.andNot IntKind.u32 (IntKind.u32.wrap (IntKind.u32.wrap (IntKind.u32.wrap ((0:Int)+(↑(r256 (IntKind.i64.wrap ((4:Int) * (↑nc:Int))).toNat):Int))+(256:Int)) - (1:Int))) (255:Int)+(↑(r256 (↑(lenT data):Int).toNat):Int))+(256:Int)) - (1:Int))) (255:Int)+IntKind.u32.wrap (IntKind.i64.wrap (stack * (↑ns:Int))))+(256:Int)) > IntKind.u32.wrap (IntKind.u32.wrap pages * (256:Int))) = false : St }):=by kernel_rfl
theorem stI_wfZ (pages stack types : Int) (nc nr : Nat) (data : List UInt8) (starts : List Nat) (k : Nat) : (stIZ pages stack types nc nr data starts k).Wf :=
 ⟨ng71,Sf.Ok.mk' 3 ⟨⟨rfl,rfl,flat_bnd (u32s_flat starts)⟩,⟨rfl,rfl,fun v hv => okV_bnd 3 v (List.all_eq_true.1 (show (imgLZ pages stack types nc nr starts.length data).all (okV (fun l => Nat.blt l 71) 3) = true from by kernel_rfl) v hv)⟩,trivial⟩ rfl (fun x hx => by
  have : (stIZ pages stack types nc nr data starts k).e.all (fun x => okV (fun l => Nat.blt l 71) 3 x.2) = true:=by kernel_rfl
  exact List.all_eq_true.1 this x hx)⟩
theorem st_nextZ (pages stack types : Int) (nc nr : Nat) (data : List UInt8) (starts : List Nat) (k : Nat) (e : Sf) (hl : starts.length < 9000000000000000000) (hx : starts.getD k 0 < 4294967296) (hk : k < starts.length) (hv : starts.getD k 0 < nc) (hn : e.n = 71) (he : e.Ok (keeps 71 71 id (fun l => Nat.blt l 71))) :
  ∃ g,evC Try.prog (evF Try.prog noBase noLoop 100 3) (noLoop 50) 19 100 (loopOf Try.prog 50 0) ((stIZ pages stack types nc nr data starts k).frT 19 [(0,true),(1,false)]) = some (.normal,g) ∧ g.s.O ∧
   Sf.Leads 3 (fun l => Nat.blt l 71) id (stIZ pages stack types nc nr data starts k) g (stIZ pages stack types nc nr data starts (k + 1)) e:=by
 refine ⟨_,st_bZ pages stack types nc nr data starts k,?_,?_⟩
 ·simp only [rr, tt, u32s_has,u32s_like,u32s_at,Int.toNat_natCast,Nat.zero_add,Nat.mul_one]
  rw [u32_i64 hx]
  exact ⟨bif_true (by simp; omega) (bif_true (by simp; omega) ⟨trivial,by simp; omega⟩),by simp only [rr, tt, decide_eq_false_iff_not]; omega⟩
 ·refine ⟨fun _ _ => rfl,⟨⟨rfl,flat_all (u32s_flat starts),rfl,rfl,rfl,trivial,(flat_map (u32s_flat starts)).symm⟩,⟨rfl,by kernel_rfl,rfl,rfl,rfl,trivial,by kernel_rfl⟩,trivial⟩,rfl,trivial,⟨⟨by kernel_rfl,by kernel_rfl⟩,⟨rfl,by kernel_rfl⟩,⟨rfl,by kernel_rfl⟩,⟨rfl,?_⟩,trivial⟩,Nat.le_refl _,fun l hl => blt_no hl,?_,?_⟩
  ·refine Eq.trans (b:=Value.int .i64 (IntKind.i64.wrap ((k : Int) + 1))) (by kernel_rfl) ?_
   rw [cast_succ_i64 k (by omega)]; rfl
  ·rw [hn]; exact he
  ·intro x _ _; exact .inl rfl
theorem st_foundZ (pages stack types : Int) (nc nr : Nat) (data : List UInt8) (starts : List Nat) (j : Nat) (hl : starts.length < 9000000000000000000) (hx : ∀ x ∈ starts,x < 4294967296) (hj : j < starts.length) (hv : nc ≤ starts.getD j 0) (hn : ∀ i,i < j → starts.getD i 0 < nc) :
  ∀ x : { k : Nat // k ≤ j },LoopOk Try.prog 19 (loopOf Try.prog 50 0) ((stIZ pages stack types nc nr data starts x.1).fr 19) .ret ((stF j).fr 19):=by
 have hx' : ∀ i,i < starts.length → starts.getD i 0 < 4294967296:=fun i hi => by
  rw [List.getD_eq_getElem?_getD,List.getElem?_eq_getElem hi]; exact hx _ (List.getElem_mem hi)
 refine loop_ok (L:=100) (run_ok (L:=100) i_names (noBase_ok _) (noLoop_ok _) 3) (noLoop_any _ _ 50) (fun _ h => h) (X:={ k : Nat // k ≤ j }) (fun x => stIZ pages stack types nc nr data starts x.1) (fun _ => stF j) (fun _ => .ret) (fun x => j - x.1) (fun x => stI_wfZ pages stack types nc nr data starts x.1) ?_
 rintro ⟨k,hk⟩
 by_cases h : k = j
 ·subst h
  refine ⟨[(0,true),(1,true)],.ret,_,3,fun l => Nat.blt l 71,id,st_aZ pages stack types nc nr data starts k,?_,.inr ⟨by simp,rfl,?_⟩⟩
  ·simp only [rr, tt, u32s_has,u32s_like,u32s_at,Int.toNat_natCast,Nat.zero_add,Nat.mul_one]
   rw [u32_i64 (hx' k hj)]
   exact ⟨bif_true (by simp; omega) (bif_true (by simp; omega) ⟨trivial,by simp; omega⟩),by simp only [rr, tt, decide_eq_true_eq]; omega⟩
  ·exact ⟨fun _ _ => rfl,trivial,rfl,trivial,⟨⟨rfl,by kernel_rfl⟩,trivial⟩,Nat.le_refl _,fun l hl => blt_no hl,stF_ok k,fun x hx => by cases hx⟩
 ·obtain ⟨g,h1,h2,h3⟩:=st_nextZ pages stack types nc nr data starts k (stF j) hl (hx' k (by omega)) (by omega) (hn k (by omega)) rfl (stF_ok j)
  exact ⟨_,.normal,g,3,_,_,h1,h2,.inl ⟨rfl,⟨k + 1,by omega⟩,by show j - (k + 1) < j - k; omega,rfl,rfl,h3⟩⟩
theorem st_noneZ (pages stack types : Int) (nc nr : Nat) (data : List UInt8) (starts : List Nat) (hl : starts.length < 9000000000000000000) (hx : ∀ x ∈ starts,x < 4294967296) (hn : ∀ i,i < starts.length → starts.getD i 0 < nc) :
  ∀ x : { k : Nat // k ≤ starts.length },LoopOk Try.prog 19 (loopOf Try.prog 50 0) ((stIZ pages stack types nc nr data starts x.1).fr 19) (.exit 0) (stN.fr 19):=by
 have hx' : ∀ i,i < starts.length → starts.getD i 0 < 4294967296:=fun i hi => by
  rw [List.getD_eq_getElem?_getD,List.getElem?_eq_getElem hi]; exact hx _ (List.getElem_mem hi)
 refine loop_ok (L:=100) (run_ok (L:=100) i_names (noBase_ok _) (noLoop_ok _) 3) (noLoop_any _ _ 50) (fun _ h => h) (X:={ k : Nat // k ≤ starts.length }) (fun x => stIZ pages stack types nc nr data starts x.1) (fun _ => stN) (fun _ => .exit 0) (fun x => starts.length - x.1) (fun x => stI_wfZ pages stack types nc nr data starts x.1) ?_
 rintro ⟨k,hk⟩
 by_cases h : k < starts.length
 ·obtain ⟨g,h1,h2,h3⟩:=st_nextZ pages stack types nc nr data starts k stN hl (hx' k h) h (hn k h) rfl stN_ok
  exact ⟨_,.normal,g,3,_,_,h1,h2,.inl ⟨rfl,⟨k + 1,by omega⟩,by show starts.length - (k + 1) < starts.length - k; omega,rfl,rfl,h3⟩⟩
 ·refine ⟨[(0,false)],.exit 0,_,3,fun l => Nat.blt l 71,id,st_cZ pages stack types nc nr data starts k,?_,.inr ⟨by simp,rfl,?_⟩⟩
  ·simp; omega
  ·exact ⟨fun _ _ => rfl,trivial,rfl,trivial,trivial,Nat.le_refl _,fun l hl => blt_no hl,stN_ok,fun x hx => by cases hx⟩
def stEntFZ (pages stack types : Int) (nc nr : Nat) (data : List UInt8) (starts : List Nat) (j : Nat) (hl : starts.length < 9000000000000000000) (hx : ∀ x ∈ starts,x < 4294967296) (hj : j < starts.length) (hv : nc ≤ starts.getD j 0) (hn : ∀ i,i < j → starts.getD i 0 < nc) : Ent Try.prog :=
 entC Try.prog 50 0 19 (stIZ pages stack types nc nr data starts 0) .ret (stF j) (by kernel_rfl) (by kernel_rfl) (st_foundZ pages stack types nc nr data starts j hl hx hj hv hn ⟨0,Nat.zero_le _⟩)
def stEntNZ (pages stack types : Int) (nc nr : Nat) (data : List UInt8) (starts : List Nat) (hl : starts.length < 9000000000000000000) (hx : ∀ x ∈ starts,x < 4294967296) (hn : ∀ i,i < starts.length → starts.getD i 0 < nc) : Ent Try.prog :=
 entC Try.prog 50 0 19 (stIZ pages stack types nc nr data starts 0) (.exit 0) stN (by kernel_rfl) (by kernel_rfl) (st_noneZ pages stack types nc nr data starts hl hx hn ⟨0,Nat.zero_le _⟩)
theorem layC_anyZ {f : FuncId} {pages stack types : Int} {nc nr ns : Nat} {data : List UInt8} {T : List (Nat × Bool)} {s' : St} {v : Value} (h : evF Try.prog (baseC 3 selJ) noLoop 100 10 f [imgVZ pages stack types nc nr ns data] ⟨67,[],[],0,T,0,True⟩ = some (v,s')) (hv : v = layR pages stack nc ns data.length) (hO : s'.O) : ConOk Try.prog f 3 (layCZ pages stack types nc nr ns data):=by
 subst hv
 refine conOk_flat (run_ok i_names (baseC_ok selJ_ok) (noLoop_ok _) 10) (by decide) ?_ h hO rfl rfl
 kernel_rfl
theorem lay_progZ (pages stack types : Int) (nc nr ns : Nat) (data : List UInt8) (h : layOk pages stack nc ns data.length) : ConOk Try.prog 26 3 (layCZ pages stack types nc nr ns data):=by
 obtain ⟨h1,h2,h3,h4,h5,h6,h7,h8⟩:=h
 obtain ⟨p,rfl⟩:=Int.eq_ofNat_of_zero_le h1
 obtain ⟨s,rfl⟩:=Int.eq_ofNat_of_zero_le h3
 have hs:=stack_ns (s:=s) (ns:=ns) (by omega) h7
 have q1:=r256_le (4 * nc)
 have q2:=r256_le data.length
 have m1:=r256_mod (4 * nc)
 have m2:=r256_mod data.length
 have m3 : s * ns % 256 = 0:=by rw [Nat.mul_mod,show s % 256 = 0 by omega]; simp
 have e1 : IntKind.i64.wrap ((4 : Int) * (nc : Int)) = ((4 * nc : Nat) : Int):=by rw [wrap_i64 (by omega) (by omega)]; omega
 have e2 : IntKind.u32.wrap ((0 : Int) + ((r256 (4 * nc) : Nat) : Int)) = ((r256 (4 * nc) : Nat) : Int):=by rw [IntKind.wrap_u32]; omega
 have e3 : IntKind.i64.wrap ((s : Int) * (ns : Int)) = ((s * ns : Nat) : Int):=by rw [Int.ofNat_mul_ofNat,wrap_i64 (by omega) (by omega)]
 have e4 : IntKind.u32.wrap (IntKind.u32.wrap (p : Int) * (256 : Int)) = ((p * 256 : Nat) : Int):=by rw [IntKind.wrap_u32,IntKind.wrap_u32]; omega
 have hd:=layout_bigZ (p : Int) (s : Int) types nc nr ns data
 have hk:=layout_okZ (p : Int) (s : Int) types nc nr ns data
 simp only [rr, tt, e1,Int.toNat_natCast,lenT_eq,e2,alg256 _ m1 (by omega),u32_add (r256 (4 * nc)) (r256 data.length) (by omega),alg256 (r256 (4 * nc) + r256 data.length) (by omega) (by omega),e3,u32_nat (s * ns) (by omega),u32_add (r256 (4 * nc) + r256 data.length) (s * ns) (by omega),alg256 (r256 (4 * nc) + r256 data.length + s * ns) (by omega) (by omega),e4] at hd hk
 cases hb : layBig (p : Int) (s : Int) nc ns data.length
 ·have hb' : r256 (4 * nc) + r256 data.length + s * ns + 256 ≤ p * 256:=by
   unfold layBig layFrom at hb; simp only [rr, tt, Int.toNat_natCast,decide_eq_false_iff_not] at hb; omega
  have e5 : IntKind.u32.wrap (((p * 256 : Nat) : Int) - ((r256 (4 * nc) + r256 data.length + s * ns : Nat) : Int)) = ((p * 256 - (r256 (4 * nc) + r256 data.length + s * ns) : Nat) : Int):=by rw [IntKind.wrap_u32]; omega
  rw [e5] at hk
  refine layC_anyZ (T:=[(0,false)]) hk ?_ ?_
  ·unfold layR layA
   rw [hb]
   rfl
  ·refine ⟨⟨⟨trivial,⟨by omega,by omega⟩,⟨trivial,trivial⟩,trivial,trivial⟩,⟨by omega,by omega⟩,⟨trivial,trivial⟩,trivial,trivial⟩,?_⟩
   rw [IntKind.wrap_u32]
   simp only [rr, tt, decide_eq_false_iff_not]; omega
 ·have hb' : ¬ (r256 (4 * nc) + r256 data.length + s * ns + 256 ≤ p * 256):=by
   unfold layBig layFrom at hb; simp only [rr, tt, Int.toNat_natCast,decide_eq_true_eq] at hb; omega
  refine layC_anyZ (T:=[(0,true)]) hd ?_ ?_
  ·unfold layR layA
   rw [hb]
   rfl
  ·refine ⟨⟨⟨trivial,⟨by omega,by omega⟩,⟨trivial,trivial⟩,trivial,trivial⟩,⟨by omega,by omega⟩,⟨trivial,trivial⟩,trivial,trivial⟩,?_⟩
   rw [IntKind.wrap_u32]
   simp only [rr, tt, decide_eq_true_eq]; omega
end Go.Proofs.Ytdljpnebpoaeiaa
namespace Go.Proofs.Ytdljpnebpoaeiaa
open Go.RowKit
open Sy
def selLayZ : SelC:=fun f args _ =>
 match args with
 | [.agg ⟨[.int _ pages,.int _ stack,.int _ types,.slice (some _) nc _,.string ⟨⟨data⟩⟩,.slice none _ _,.slice (some _) ns _]⟩] => bif Nat.beq f 26 then some (layCZ pages stack types nc 0 ns data,[64,65,66],layOk pages stack nc ns data.length) else none
 | _ => none
theorem selLayZ_ok : SelOk Try.prog 3 selLayZ:=by
 intro f args s c ρ q h hq
 unfold selLayZ at h
 split at h
 ·obtain ⟨h2,h3⟩:=bif_some h
  have h2:=Nat.eq_of_beq_eq_true h2
  subst h2
  cases h3
  exact lay_progZ _ _ _ _ _ _ _ hq
 ·cases h
theorem lay_longZ (pages stack types : Int) (nc : Nat) (data : List UInt8) (rs : List Rl) (starts : List Nat) : evF Try.prog (baseC 3 (selOr selLayZ selL)) noLoop 100 10 10 [imgVZ pages stack types nc 0 starts.length data] (laySZ rs starts [(0,true)]) = some (Value.tuple { toList:=[Value.agg ⟨[.int .u32 0,.int .u32 0,.int .u32 0,.int .u32 0,.int .u32 0,.int .u32 0,.int .u32 0,.int .u32 0]⟩,.int .i64 3] },{ n:=70,h:=[(66,⟨false,some (0,0),u32s starts,none⟩)],lo:=[],esc:=0,T:=[],k:=1,O:=(True∧(tt∧4 < 9000000000000000000)∧(rr (Value.slice (some ⟨69,0,none⟩) 4 4)∧True)∧((tt∧tt∧tt∧tt∧tt∧True∧rr [Value.bool (decide ((↑nc:Int) > (4096:Int))),.bool (decide ((↑(lenT data):Int) > (16384:Int))),.bool false,.bool (decide ((↑starts.length:Int) > (4:Int)))])∧True)∧True)∧(!!(decide ((↑nc:Int) > (4096:Int)) || (decide ((↑(lenT data):Int) > (16384:Int)) || (decide ((↑starts.length:Int) > (4:Int)) || false)))) = true : St }):=by kernel_rfl
theorem lay_argZ (pages stack types : Int) (nc : Nat) (data : List UInt8) (rs : List Rl) (starts : List Nat) : evF Try.prog (baseC 3 (selOr selLayZ selL)) noLoop 100 10 10 [imgVZ pages stack types nc 0 starts.length data] (laySZ rs starts [(0,false),(1,true)]) = some (Value.tuple { toList:=[Value.agg ⟨[.int .u32 0,.int .u32 0,.int .u32 0,.int .u32 0,.int .u32 0,.int .u32 0,.int .u32 0,.int .u32 0]⟩,.int .i64 2] },{ n:=71,h:=[(66,⟨false,some (0,0),u32s starts,none⟩)],lo:=[],esc:=0,T:=[],k:=2,O:=(((True∧(tt∧4 < 9000000000000000000)∧(rr (Value.slice (some ⟨69,0,none⟩) 4 4)∧True)∧((tt∧tt∧tt∧tt∧tt∧True∧rr [Value.bool (decide ((↑nc:Int) > (4096:Int))),.bool (decide ((↑(lenT data):Int) > (16384:Int))),.bool false,.bool (decide ((↑starts.length:Int) > (4:Int)))])∧True)∧True)∧(!!(decide ((↑nc:Int) > (4096:Int)) || (decide ((↑(lenT data):Int) > (16384:Int)) || (decide ((↑starts.length:Int) > (4:Int)) || false)))) = false)∧(tt∧9 < 9000000000000000000)∧(rr (Value.slice (some ⟨70,0,none⟩) 9 9)∧True)∧((tt∧tt∧tt∧tt∧tt∧True∧rr [Value.bool (decide (pages < (16:Int))),.bool (decide (pages > (1024:Int))),.bool (decide (stack < (256:Int))),.bool (decide (stack > (4096:Int))),.bool (stack.tmod (256:Int) != (0:Int)),.bool (decide (types < (0:Int))),.bool (decide (types > (2048:Int))),.bool ((↑nc:Int) == (0:Int)),.bool ((↑starts.length:Int) == (0:Int))])∧True)∧True)∧(!!(decide (pages < (16:Int)) || (decide (pages > (1024:Int)) || (decide (stack < (256:Int)) || (decide (stack > (4096:Int)) || (stack.tmod (256:Int) != (0:Int) || (decide (types < (0:Int)) || (decide (types > (2048:Int)) || ((↑nc:Int) == (0:Int) || ((↑starts.length:Int) == (0:Int) || false)))))))))) = true : St }):=by kernel_rfl
theorem lay_farZ (pages stack types : Int) (nc : Nat) (data : List UInt8) (rs : List Rl) (starts : List Nat) (j : Nat) (hl : starts.length < 9000000000000000000) (hx : ∀ (x : Nat),x ∈ starts → x < 4294967296) (hj : j < starts.length) (hv : nc ≤ starts.getD j 0) (hn : ∀ (i : Nat),i < j → starts.getD i 0 < nc) : evF Try.prog (baseC 3 (selOr selLayZ selL)) (lpOf [stEntFZ pages stack types nc 0 data starts j hl hx hj hv hn]) 100 10 10 [imgVZ pages stack types nc 0 starts.length data] (laySZ rs starts [(0,false),(1,false)]) = some (Value.tuple { toList:=[Value.agg ⟨[.int .u32 0,.int .u32 0,.int .u32 0,.int .u32 0,.int .u32 0,.int .u32 0,.int .u32 0,.int .u32 0]⟩,.int .i64 2] },{ n:=71,h:=[(66,⟨false,some (0,0),u32s starts,none⟩)],lo:=[],esc:=0,T:=[],k:=2,O:=((((True∧(tt∧4 < 9000000000000000000)∧(rr (Value.slice (some ⟨69,0,none⟩) 4 4)∧True)∧((tt∧tt∧tt∧tt∧tt∧True∧rr [Value.bool (decide ((↑nc:Int) > (4096:Int))),.bool (decide ((↑(lenT data):Int) > (16384:Int))),.bool false,.bool (decide ((↑starts.length:Int) > (4:Int)))])∧True)∧True)∧(!!(decide ((↑nc:Int) > (4096:Int)) || (decide ((↑(lenT data):Int) > (16384:Int)) || (decide ((↑starts.length:Int) > (4:Int)) || false)))) = false)∧(tt∧9 < 9000000000000000000)∧(rr (Value.slice (some ⟨70,0,none⟩) 9 9)∧True)∧((tt∧tt∧tt∧tt∧tt∧True∧rr [Value.bool (decide (pages < (16:Int))),.bool (decide (pages > (1024:Int))),.bool (decide (stack < (256:Int))),.bool (decide (stack > (4096:Int))),.bool (stack.tmod (256:Int) != (0:Int)),.bool (decide (types < (0:Int))),.bool (decide (types > (2048:Int))),.bool ((↑nc:Int) == (0:Int)),.bool ((↑starts.length:Int) == (0:Int))])∧True)∧True)∧(!!(decide (pages < (16:Int)) || (decide (pages > (1024:Int)) || (decide (stack < (256:Int)) || (decide (stack > (4096:Int)) || (stack.tmod (256:Int) != (0:Int) || (decide (types < (0:Int)) || (decide (types > (2048:Int)) || ((↑nc:Int) == (0:Int) || ((↑starts.length:Int) == (0:Int) || false)))))))))) = false)∧(rr (Value.slice (some ⟨66,0,none⟩) starts.length 9223372036854775874)∧rr (Value.func (Fn.func 25) { toList:=[] } { toList:=[Value.pointer (some ⟨67,0,none⟩)] })∧rr (Value.int .i64 (↑starts.length))∧rr (Value.int .i64 0)∧True)∧((tt∧tt∧True∧rr (u32s starts))∧(tt∧tt∧True∧rr [Value.int .i64 pages,.int .i64 stack,.int .i64 types,.slice (some ⟨64,0,none⟩) nc 9223372036854775872,.string ⟨⟨data⟩⟩,.slice none 0 0,.slice (some ⟨66,0,none⟩) starts.length 9223372036854775874])∧True)∧True∧True : St }):=by kernel_rfl
theorem lay_bigZ (pages stack types : Int) (nc : Nat) (data : List UInt8) (rs : List Rl) (starts : List Nat) (hl : starts.length < 9000000000000000000) (hx : ∀ (x : Nat),x ∈ starts → x < 4294967296) (hn : ∀ (i : Nat),i < starts.length → starts.getD i 0 < nc) : evF Try.prog (baseC 3 (selOr selLayZ selL)) (lpOf [stEntNZ pages stack types nc 0 data starts hl hx hn]) 100 10 10 [imgVZ pages stack types nc 0 starts.length data] (laySZ rs starts [(0,false),(1,false),(2,false),(3,true)]) = some (Value.tuple { toList:=[Value.agg ⟨[.int .u32 0,.int .u32 0,.int .u32 0,.int .u32 0,.int .u32 0,.int .u32 0,.int .u32 0,.int .u32 0]⟩,.int .i64 13] },{ n:=72,h:=[(66,⟨false,some (0,0),u32s starts,none⟩)],lo:=[],esc:=0,T:=[],k:=4,O:=(((((((True∧(tt∧4 < 9000000000000000000)∧(rr (Value.slice (some ⟨69,0,none⟩) 4 4)∧True)∧((tt∧tt∧tt∧tt∧tt∧True∧rr [Value.bool (decide ((↑nc:Int) > (4096:Int))),.bool (decide ((↑(lenT data):Int) > (16384:Int))),.bool false,.bool (decide ((↑starts.length:Int) > (4:Int)))])∧True)∧True)∧(!!(decide ((↑nc:Int) > (4096:Int)) || (decide ((↑(lenT data):Int) > (16384:Int)) || (decide ((↑starts.length:Int) > (4:Int)) || false)))) = false)∧(tt∧9 < 9000000000000000000)∧(rr (Value.slice (some ⟨70,0,none⟩) 9 9)∧True)∧((tt∧tt∧tt∧tt∧tt∧True∧rr [Value.bool (decide (pages < (16:Int))),.bool (decide (pages > (1024:Int))),.bool (decide (stack < (256:Int))),.bool (decide (stack > (4096:Int))),.bool (stack.tmod (256:Int) != (0:Int)),.bool (decide (types < (0:Int))),.bool (decide (types > (2048:Int))),.bool ((↑nc:Int) == (0:Int)),.bool ((↑starts.length:Int) == (0:Int))])∧True)∧True)∧(!!(decide (pages < (16:Int)) || (decide (pages > (1024:Int)) || (decide (stack < (256:Int)) || (decide (stack > (4096:Int)) || (stack.tmod (256:Int) != (0:Int) || (decide (types < (0:Int)) || (decide (types > (2048:Int)) || ((↑nc:Int) == (0:Int) || ((↑starts.length:Int) == (0:Int) || false)))))))))) = false)∧(rr (Value.slice (some ⟨66,0,none⟩) starts.length 9223372036854775874)∧rr (Value.func (Fn.func 25) { toList:=[] } { toList:=[Value.pointer (some ⟨67,0,none⟩)] })∧rr (Value.int .i64 (↑starts.length))∧rr (Value.int .i64 0)∧True)∧((tt∧tt∧True∧rr (u32s starts))∧(tt∧tt∧True∧rr [Value.int .i64 pages,.int .i64 stack,.int .i64 types,.slice (some ⟨64,0,none⟩) nc 9223372036854775872,.string ⟨⟨data⟩⟩,.slice none 0 0,.slice (some ⟨66,0,none⟩) starts.length 9223372036854775874])∧True)∧True∧True)∧rr false)∧layOk pages stack nc starts.length data.length∧(rr (Value.agg ⟨[.int .i64 pages,.int .i64 stack,.int .i64 types,.slice (some ⟨64,0,none⟩) nc 9223372036854775872,.string ⟨⟨data⟩⟩,.slice none 0 0,.slice (some ⟨66,0,none⟩) starts.length 9223372036854775874]⟩)∧True)∧True∧True)∧(!!layBig pages stack nc starts.length data.length) = true : St }):=by kernel_rfl
theorem lay_okZ (pages stack types : Int) (nc : Nat) (data : List UInt8) (rs : List Rl) (starts : List Nat) (hl : starts.length < 9000000000000000000) (hx : ∀ (x : Nat),x ∈ starts → x < 4294967296) (hn : ∀ (i : Nat),i < starts.length → starts.getD i 0 < nc) : evF Try.prog (baseC 3 (selOr selLayZ selL)) (lpOf [stEntNZ pages stack types nc 0 data starts hl hx hn]) 100 10 10 [imgVZ pages stack types nc 0 starts.length data] (laySZ rs starts [(0,false),(1,false),(2,false),(3,false)]) = some (Value.tuple { toList:=[Value.agg ⟨[.int .u32 0,.int .u32 (pk (layBig pages stack nc starts.length data.length) (r256 (4 * nc))),.int .u32 (pk (layBig pages stack nc starts.length data.length) (r256 (4 * nc))),.int .u32 (pk (layBig pages stack nc starts.length data.length) (r256 data.length)),.int .u32 (pk (layBig pages stack nc starts.length data.length) (r256 (4 * nc)+r256 data.length)),.int .u32 (pk (layBig pages stack nc starts.length data.length) (stack.toNat * starts.length)),.int .u32 (pk (layBig pages stack nc starts.length data.length) (layFrom stack nc starts.length data.length)),.int .u32 (pk (layBig pages stack nc starts.length data.length) (pages.toNat * 256 - layFrom stack nc starts.length data.length))]⟩,.int .i64 0] },{ n:=72,h:=[(66,⟨false,some (0,0),u32s starts,none⟩)],lo:=[],esc:=0,T:=[],k:=4,O:=(((((((True∧(tt∧4 < 9000000000000000000)∧(rr (Value.slice (some ⟨69,0,none⟩) 4 4)∧True)∧((tt∧tt∧tt∧tt∧tt∧True∧rr [Value.bool (decide ((↑nc:Int) > (4096:Int))),.bool (decide ((↑(lenT data):Int) > (16384:Int))),.bool false,.bool (decide ((↑starts.length:Int) > (4:Int)))])∧True)∧True)∧(!!(decide ((↑nc:Int) > (4096:Int)) || (decide ((↑(lenT data):Int) > (16384:Int)) || (decide ((↑starts.length:Int) > (4:Int)) || false)))) = false)∧(tt∧9 < 9000000000000000000)∧(rr (Value.slice (some ⟨70,0,none⟩) 9 9)∧True)∧((tt∧tt∧tt∧tt∧tt∧True∧rr [Value.bool (decide (pages < (16:Int))),.bool (decide (pages > (1024:Int))),.bool (decide (stack < (256:Int))),.bool (decide (stack > (4096:Int))),.bool (stack.tmod (256:Int) != (0:Int)),.bool (decide (types < (0:Int))),.bool (decide (types > (2048:Int))),.bool ((↑nc:Int) == (0:Int)),.bool ((↑starts.length:Int) == (0:Int))])∧True)∧True)∧(!!(decide (pages < (16:Int)) || (decide (pages > (1024:Int)) || (decide (stack < (256:Int)) || (decide (stack > (4096:Int)) || (stack.tmod (256:Int) != (0:Int) || (decide (types < (0:Int)) || (decide (types > (2048:Int)) || ((↑nc:Int) == (0:Int) || ((↑starts.length:Int) == (0:Int) || false)))))))))) = false)∧(rr (Value.slice (some ⟨66,0,none⟩) starts.length 9223372036854775874)∧rr (Value.func (Fn.func 25) { toList:=[] } { toList:=[Value.pointer (some ⟨67,0,none⟩)] })∧rr (Value.int .i64 (↑starts.length))∧rr (Value.int .i64 0)∧True)∧((tt∧tt∧True∧rr (u32s starts))∧(tt∧tt∧True∧rr [Value.int .i64 pages,.int .i64 stack,.int .i64 types,.slice (some ⟨64,0,none⟩) nc 9223372036854775872,.string ⟨⟨data⟩⟩,.slice none 0 0,.slice (some ⟨66,0,none⟩) starts.length 9223372036854775874])∧True)∧True∧True)∧rr false)∧layOk pages stack nc starts.length data.length∧(rr (Value.agg ⟨[.int .i64 pages,.int .i64 stack,.int .i64 types,.slice (some ⟨64,0,none⟩) nc 9223372036854775872,.string ⟨⟨data⟩⟩,.slice none 0 0,.slice (some ⟨66,0,none⟩) starts.length 9223372036854775874]⟩)∧True)∧True∧True)∧(!!layBig pages stack nc starts.length data.length) = false : St }):=by kernel_rfl
theorem imWfZ (pages stack types : Int) (nc : Nat) (data : List UInt8) (starts : List Nat) (v : Value) (hv : flat2 v = true) : (imCZ pages stack types nc data [] starts v).Wf 3 :=
 ⟨by show NG ≤ 67; decide,Nat.le_refl _,⟨⟨rfl,rfl,flat_bnd (u32s_flat starts)⟩,trivial⟩,rfl,rfl,rfl,by kernel_rfl,okV_flat2 hv 1,fun x hx v hv => by
  obtain rfl:=List.mem_singleton.1 hx
  exact okV_flat0 (u32s_flat starts v hv) 3⟩
theorem im_anyZ {call : CallK} (hcall : SoundCall Try.prog call) {f : FuncId} {pages stack types : Int} {nc : Nat} {data : List UInt8} {starts : List Nat} {T : List (Nat × Bool)} {v v' : Value} {n k' : Nat} {q : Prop}
  (hr : call f [imgVZ pages stack types nc 0 starts.length data] (laySZ [] starts T) = some (v,⟨n,imHZ [] starts,[],0,[],k',q⟩))
  (hv : v = v') (hf : flat2 v' = true) (hu : isU v' = false) (hq : q) : ConOk Try.prog f 3 (imCZ pages stack types nc data [] starts v'):=by
 subst hv
 refine conOk_run hcall (imWfZ pages stack types nc data starts v hf) (T:=T) (p:=fun l => Nat.blt l 67) (σ:=id) hr hq ?_
 exact ⟨fun _ _ => rfl,⟨⟨rfl,flat_all (u32s_flat starts),rfl,rfl,rfl,trivial,(flat_map (u32s_flat starts)).symm⟩,trivial⟩,rfl,trivial,⟨okV_flat2 hf 1,(rnV_id 3 v).symm⟩,hu,⟨⟨rfl,rfl,flat_bnd (u32s_flat starts)⟩,trivial⟩,rfl,bnd_flat2 _ hf,fun x hx _ => .inl rfl⟩
theorem lay_conZ (pages stack types : Int) (nc : Nat) (data : List UInt8) (starts : List Nat) (hi : ImOk [] starts) : ConOk Try.prog 10 3 (imCZ pages stack types nc data [] starts (layRes pages stack types nc data [] starts)):=by
 have hb:=baseC_ok (d:=3) (selOr_ok selLayZ_ok selL_ok)
 have h4 : (4 : Nat) < 9000000000000000000:=by omega
 have h9 : (9 : Nat) < 9000000000000000000:=by omega
 cases hl : isLong nc data.length ([] : List Rl).length starts.length
 ·have hl' : (!!isLong nc data.length 0 starts.length) = false:=by rw [show isLong nc data.length 0 starts.length = false from hl]; rfl
  cases ha : isArg pages stack types nc starts.length
  ·have ha' : (!!isArg pages stack types nc starts.length) = false:=by rw [ha]; rfl
   have hlay:=arg_lay hl ha
   cases hf : isFar nc starts
   ·have hn : ∀ i,i < starts.length → starts.getD i 0 < nc:=fun i hi => by
     have:=none_of hf i hi; simpa using this
    cases hg : layBig pages stack nc starts.length data.length
    ·have hg' : (!!layBig pages stack nc starts.length data.length) = false:=by rw [hg]; rfl
     have hd : isBad types nc data.length [] = false:=rfl
     have he : errOf pages stack types nc data [] starts = 0:=by unfold errOf; rw [hl,ha,hf,hg,hd]; rfl
     have hh:=lay_okZ pages stack types nc data [] starts hi.len hi.nums hn
     rw [lenT_eq] at hh
     refine im_anyZ (run_ok i_names hb (lpOf_ok _) 10) hh ?_ rfl rfl ?_
     ·unfold layRes layV; rw [he,hg]; rfl
     ·repeat' (with_reducible apply And.intro)
      all_goals first | exact h4 | exact h9 | exact hl' | exact ha' | exact hg' | exact hlay | with_reducible trivial | with_reducible rfl
    ·have hg' : (!!layBig pages stack nc starts.length data.length) = true:=by rw [hg]; rfl
     have he : errOf pages stack types nc data [] starts = 13:=by unfold errOf; rw [hl,ha,hf,hg]; rfl
     have hh:=lay_bigZ pages stack types nc data [] starts hi.len hi.nums hn
     rw [lenT_eq] at hh
     refine im_anyZ (run_ok i_names hb (lpOf_ok _) 10) hh ?_ rfl rfl ?_
     ·unfold layRes layV; rw [he]; rfl
     ·repeat' (with_reducible apply And.intro)
      all_goals first | exact h4 | exact h9 | exact hl' | exact ha' | exact hg' | exact hlay | with_reducible trivial | with_reducible rfl
   ·obtain ⟨j,hj,hv,hn⟩:=first_of _ _ hf
    have he : errOf pages stack types nc data [] starts = 2:=by unfold errOf; rw [hl,ha,hf]; rfl
    have hh:=lay_farZ pages stack types nc data [] starts j hi.len hi.nums hj (by simpa using hv) (fun i hij => by have:=hn i hij; simpa using this)
    rw [lenT_eq] at hh
    refine im_anyZ (run_ok i_names hb (lpOf_ok _) 10) hh ?_ rfl rfl ?_
    ·unfold layRes layV; rw [he]; rfl
    ·repeat' (with_reducible apply And.intro)
     all_goals first | exact h4 | exact h9 | exact hl' | exact ha' | with_reducible trivial | with_reducible rfl
  ·have ha' : (!!isArg pages stack types nc starts.length) = true:=by rw [ha]; rfl
   have he : errOf pages stack types nc data [] starts = 2:=by unfold errOf; rw [hl,ha]; rfl
   have hh:=lay_argZ pages stack types nc data [] starts
   rw [lenT_eq] at hh
   refine im_anyZ (run_ok i_names hb (noLoop_ok _) 10) hh ?_ rfl rfl ?_
   ·unfold layRes layV; rw [he]; rfl
   ·repeat' (with_reducible apply And.intro)
    all_goals first | exact h4 | exact h9 | exact hl' | exact ha' | with_reducible trivial | with_reducible rfl
 ·have hl' : (!!isLong nc data.length 0 starts.length) = true:=by rw [show isLong nc data.length 0 starts.length = true from hl]; rfl
  have he : errOf pages stack types nc data [] starts = 3:=by unfold errOf; rw [hl]; rfl
  have hh:=lay_longZ pages stack types nc data [] starts
  rw [lenT_eq] at hh
  refine im_anyZ (run_ok i_names hb (noLoop_ok _) 10) hh ?_ rfl rfl ?_
  ·unfold layRes layV; rw [he]; rfl
  ·repeat' (with_reducible apply And.intro)
   all_goals first | exact h4 | exact h9 | exact hl' | with_reducible trivial | with_reducible rfl
end Go.Proofs.Ytdljpnebpoaeiaa
namespace Go.Proofs.Ytdljpnebpoaeiaa
open Go.RowKit
open Sy
def layZD (p s t : Int) (nc : Nat) (d : List UInt8) (so : List Nat) : Con:={ imCZ p s t nc d [] so (layRes p s t nc d [] so) with h':=[] }
def selLayAtZ (so : List Nat) : SelC:=fun f args _ =>
 match args with
 | [.agg ⟨[.int _ p,.int _ s,.int _ t,.slice (some i) nc _,.string ⟨⟨d⟩⟩,.slice none _ _,.slice (some k) _ _]⟩] => bif Nat.beq f 10 then some (layZD p s t nc d so,[i.block,65,k.block],ImOk [] so) else none
 | _ => none
theorem selLayAtZ_ok (so : List Nat) : SelOk Try.prog 3 (selLayAtZ so):=by
 intro f args s c ρ q h hq
 unfold selLayAtZ at h
 split at h
 ·obtain ⟨h2,h3⟩:=bif_some h
  have h2:=Nat.eq_of_beq_eq_true h2
  subst h2
  cases h3
  exact (lay_conZ _ _ _ _ _ so hq).drop
 ·cases h
theorem ckz_r (p s t : Int) (nc : Nat) (d : List UInt8) (so : List Nat) : evF Try.prog (baseR 3 (selLayAtZ so) noBase) noLoop 100 10 14 [imgNV p s t nc so.length d] ⟨67,[(66,⟨false,some (0,0),u32s so,none⟩)],[],0,[],0,True⟩ = some (Value.int .i64 (↑(errOf p s t nc d [] so)),{ n:=69,h:=[(66,⟨false,some (0,0),u32s so,none⟩)],lo:=[],esc:=0,T:=[],k:=0,O:=True∧ImOk [] so∧(rr (Value.agg ⟨[.int .i64 p,.int .i64 s,.int .i64 t,.slice (some ⟨64,0,none⟩) nc 9223372036854775872,.string ⟨⟨d⟩⟩,.slice none 0 0,.slice (some ⟨66,0,none⟩) so.length 9223372036854775874]⟩)∧True)∧(((tt∧(u32s so).all (okV (fun l => l.blt 67) 3) = true∧tt∧tt∧tt∧True∧u32s so = List.map (rnV (lift 67 68 [64,65,66]) 3) (u32s so))∧True)∧tt∧tt)∧True : St }):=by kernel_rfl
theorem ckNil_con (p s t : Int) (nc : Nat) (d : List UInt8) (so : List Nat) (hi : ImOk [] so) : ConOk Try.prog 14 3 (ckNil p s t nc d so (errOf p s t nc d [] so : Nat)):=by
 have f3 : ∀ xs p d,(u32s xs).all (okV p d) = true:=fun xs _ _ => flat_all (u32s_flat xs)
 have f4 : ∀ xs σ d,(u32s xs).map (rnV σ d) = u32s xs:=fun xs _ _ => flat_map (u32s_flat xs)
 refine conOk_run (run_ok (L:=100) i_names (baseR_ok (selLayAtZ_ok so) (noBase_ok _)) (noLoop_ok _) 10) ?_ (T:=[]) (ckz_r p s t nc d so) ?_ (p:=fun l => Nat.blt l 67) (σ:=id) ?_
 ·exact ⟨by show NG ≤ 67; decide,Nat.le_refl _,⟨⟨rfl,rfl,flat_bnd (u32s_flat so)⟩,trivial⟩,rfl,rfl,rfl,by kernel_rfl,rfl,fun x hx => by cases hx⟩
 ·simp only [rr, tt, f3,f4,Bool.and_self,and_true,true_and,and_self]
  exact hi
 ·exact ⟨fun _ _ => rfl,trivial,rfl,trivial,⟨rfl,rfl⟩,rfl,trivial,rfl,bnd_flat0 _ rfl,fun x hx => by cases hx⟩
end Go.Proofs.Ytdljpnebpoaeiaa
namespace Go.Proofs.Ytdljpnebpoaeiaa
open Go.RowKit
open Sy
theorem anCb_f {most off : Nat} {bs : List UInt8} : anCb most off false bs = false:=by
 have h : manyW most off false bs = false:=rfl
 have n : noneB most off false bs = true:=by unfold noneB; rw [h]; simp
 unfold anCb; rw [n,h]; rfl
theorem anRb_f {most off : Nat} {bs : List UInt8} : anRb most off false bs = false:=by
 have h : manyW most off false bs = false:=rfl
 have n : noneB most off false bs = true:=by unfold noneB; rw [h]; simp
 unfold anRb; rw [n,h]; rfl
theorem dB8_of5 {bs : List UInt8} (h : dB5 bs = false) : dB8 bs = false:=by
 have h6 : dB6 bs = false:=by unfold dB6; simp only [rr, tt, h,Bool.false_and]
 have h7 : dB7 bs = false:=by unfold dB7; rw [h6]; exact anRb_f
 unfold dB8; rw [h7]; exact anCb_f
theorem runC_lt (bs : List UInt8) : ∀ (m off : Nat),∀ x ∈ (runC bs m off).1,x < 4294967296
 | 0,off,x,hx => by cases hx
 | m + 1,off,x,hx => by
  unfold runC at hx
  cases hI : numIs 4 off bs <;> rw [hI] at hx
  ·obtain rfl:=List.mem_singleton.1 hx; omega
  ·rcases List.mem_cons.1 hx with rfl | hx
   ·exact numV_lt
   ·exact runC_lt bs m _ x hx
theorem runR_okR (bs : List UInt8) : ∀ (m off : Nat),∀ x ∈ (runR bs m off).1,RlOk x
 | 0,off,x,hx => by cases hx
 | m + 1,off,x,hx => by
  unfold runR at hx
  cases hI : rI off bs <;> rw [hI] at hx
  ·obtain rfl:=List.mem_singleton.1 hx; exact rRl_ok off bs
  ·rcases List.mem_cons.1 hx with rfl | hx
   ·exact rRl_ok off bs
   ·exact runR_okR bs m _ x hx
theorem runC_len (bs : List UInt8) : ∀ (m off : Nat),(runC bs m off).1.length ≤ m
 | 0,off => Nat.le_refl _
 | m + 1,off => by
  unfold runC
  cases numIs 4 off bs
  ·exact Nat.succ_le_succ (Nat.zero_le _)
  ·exact Nat.succ_le_succ (runC_len bs m _)
theorem runR_len (bs : List UInt8) : ∀ (m off : Nat),(runR bs m off).1.length ≤ m
 | 0,off => Nat.le_refl _
 | m + 1,off => by
  unfold runR
  cases rI off bs
  ·exact Nat.succ_le_succ (Nat.zero_le _)
  ·exact Nat.succ_le_succ (runR_len bs m _)
theorem manyW_le {most off : Nat} {b : Bool} {bs : List UInt8} (h : manyW most off b bs = true) : numV 4 off bs ≤ most:=by
 unfold manyW at h
 rw [Bool.and_eq_true] at h
 simpa using h.2
theorem anCa_lt {most off : Nat} {b : Bool} {bs : List UInt8} : ∀ x ∈ anCa most off b bs,x < 4294967296:=by
 intro x hx
 unfold anCa at hx
 cases h : noneB most off b bs <;> rw [h] at hx
 ·exact runC_lt bs _ _ x hx
 ·cases hx
theorem anCa_len {most off : Nat} {b : Bool} {bs : List UInt8} : (anCa most off b bs).length ≤ most:=by
 unfold anCa
 cases h : noneB most off b bs
 ·exact Nat.le_trans (runC_len bs _ _) (manyW_le (noneB_no h).2)
 ·exact Nat.zero_le _
theorem anRa_ok {most off : Nat} {b : Bool} {bs : List UInt8} : ∀ x ∈ anRa most off b bs,RlOk x:=by
 intro x hx
 unfold anRa at hx
 cases h : noneB most off b bs <;> rw [h] at hx
 ·exact runR_okR bs _ _ x hx
 ·cases hx
theorem anRa_len {most off : Nat} {b : Bool} {bs : List UInt8} : (anRa most off b bs).length ≤ most:=by
 unfold anRa
 cases h : noneB most off b bs
 ·exact Nat.le_trans (runR_len bs _ _) (manyW_le (noneB_no h).2)
 ·exact Nat.zero_le _
theorem dImOk (bs : List UInt8) : ImOk (dRa bs) (dSa bs):=⟨anRa_ok,anCa_lt,by have:=anCa_len (most:=4) (off:=dO7 bs) (b:=dB7 bs) (bs:=bs); unfold dSa; omega⟩
theorem dCa_flag {bs : List UInt8} (h : (dCa bs).length ≠ 0) : noneB 4096 (dO3 bs) (dB3 bs) bs = false:=by
 cases e : noneB 4096 (dO3 bs) (dB3 bs) bs
 ·rfl
 ·exact absurd (by unfold dCa anCa; rw [e]; rfl) h
theorem dSa_flag {bs : List UInt8} (h : (dSa bs).length ≠ 0) : noneB 4 (dO7 bs) (dB7 bs) bs = false:=by
 cases e : noneB 4 (dO7 bs) (dB7 bs) bs
 ·rfl
 ·exact absurd (by unfold dSa anCa; rw [e]; rfl) h
theorem dRa_flag {bs : List UInt8} (h : (dRa bs).length = 0) : noneB 256 (dO6 bs) (dB6 bs) bs = true:=by
 cases e : noneB 256 (dO6 bs) (dB6 bs) bs
 ·have:=rRa_ne bs (numV 4 (dO6 bs) bs) (numO 4 (dO6 bs) bs) (noneB_no e).1
  exact absurd (by unfold dRa anRa at h; rw [e] at h; exact h) this
 ·rfl
theorem dRa_flag' {bs : List UInt8} (h : (dRa bs).length ≠ 0) : noneB 256 (dO6 bs) (dB6 bs) bs = false:=by
 cases e : noneB 256 (dO6 bs) (dB6 bs) bs
 ·rfl
 ·exact absurd (by unfold dRa anRa; rw [e]; rfl) h
def dErr (bs : List UInt8) : Nat:=errOf (dP bs) (dS bs) (dT bs) (dCa bs).length (dD bs) (dRa bs) (dSa bs)
def dOK (bs : List UInt8) : Bool:=dB8 bs && (Nat.beq (bs.length - dO8 bs) 0 && Nat.beq (dErr bs) 0)
section
variable {bs : List UInt8} (hd : DOk bs)
include hd
theorem q_ncc (off : Nat) (b : Bool) (ho : off ≤ 1000000000) : ConOk Try.prog 40 3 (nccC 4 off b bs) ∧ FlatC (nccC 4 off b bs):=⟨ncc_con _ _ _ _ ⟨.inr (.inr rfl),ho,by have:=hd.l; omega⟩,ncc_flat ..⟩
theorem q_tak : ConOk Try.prog 44 3 (takC (dK bs) (dO5 bs) bs) ∧ FlatC (takC (dK bs) (dO5 bs) bs):=⟨tak_con _ _ _ (by have:=hd.l; omega) (by have:=hd.o5; omega) numV_lt,tak_flat ..⟩
theorem q_mca (a b c d e f : Value) (hy : YOk a b c d e f) : ConOk Try.prog 42 3 (mc_A a b c d e f (dO3 bs) (dB3 bs) bs (dCa bs).length (dO4 bs) (dB4 bs)) ∧ FlatC (mc_A a b c d e f (dO3 bs) (dB3 bs) bs (dCa bs).length (dO4 bs) (dB4 bs)):=⟨mc_any _ _ _ _ _ _ _ _ _ hy hd.o3 (by have:=hd.l; omega),mc_aflat ..⟩
theorem q_mra (a b c d e f : Value) (hy : YOk a b c d e f) : ConOk Try.prog 42 3 (mr_A a b c d e f (dO6 bs) (dB6 bs) bs (dRa bs).length (dO7 bs) (dB7 bs)) ∧ FlatC (mr_A a b c d e f (dO6 bs) (dB6 bs) bs (dRa bs).length (dO7 bs) (dB7 bs)):=⟨mr_any _ _ _ _ _ _ _ _ _ hy hd.o6 (by have:=hd.l; omega),mr_aflat ..⟩
theorem q_msa (a b c d e f : Value) (hy : YOk a b c d e f) : ConOk Try.prog 42 3 (ms_A a b c d e f (dO7 bs) (dB7 bs) bs (dSa bs).length (dO8 bs) (dB8 bs)) ∧ FlatC (ms_A a b c d e f (dO7 bs) (dB7 bs) bs (dSa bs).length (dO8 bs) (dB8 bs)):=⟨ms_any _ _ _ _ _ _ _ _ _ hy hd.o7 (by have:=hd.l; omega),ms_aflat ..⟩
theorem q_mcc (a b c d e f : Value) (hy : YOk a b c d e f) (h : (dCa bs).length ≠ 0) : ConOk Try.prog 42 3 (mc_C a b c d e f (dO3 bs) (dB3 bs) bs (dCa bs) (dO4 bs) (dB4 bs)) ∧ FlatC (mc_C a b c d e f (dO3 bs) (dB3 bs) bs (dCa bs) (dO4 bs) (dB4 bs)):=by
 have hz:=dCa_flag h
 have a1 : dCa bs = rCa bs (numV 4 (dO3 bs) bs) (numO 4 (dO3 bs) bs):=by unfold dCa anCa; rw [hz]; rfl
 have a2 : dO4 bs = rCo bs (numV 4 (dO3 bs) bs) (numO 4 (dO3 bs) bs):=by unfold dO4 anCo; rw [hz]; rfl
 have a3 : dB4 bs = rCb bs (numV 4 (dO3 bs) bs) (numO 4 (dO3 bs) bs):=by unfold dB4 anCb; rw [hz]; rfl
 refine ⟨?_,mc_flat ..⟩
 rw [a1,a2,a3]
 exact mc_con _ _ _ _ _ _ _ _ _ hy hd.o3 (by have:=hd.l; omega) (noneB_no hz).1 (noneB_no hz).2
theorem q_mrc (a b c d e f : Value) (hy : YOk a b c d e f) (h : (dRa bs).length ≠ 0) : ConOk Try.prog 42 3 (mr_C a b c d e f (dO6 bs) (dB6 bs) bs (dRa bs) (dO7 bs) (dB7 bs)) ∧ FlatC (mr_C a b c d e f (dO6 bs) (dB6 bs) bs (dRa bs) (dO7 bs) (dB7 bs)):=by
 have hz:=dRa_flag' h
 have a1 : dRa bs = rRa bs (numV 4 (dO6 bs) bs) (numO 4 (dO6 bs) bs):=by unfold dRa anRa; rw [hz]; rfl
 have a2 : dO7 bs = rRo bs (numV 4 (dO6 bs) bs) (numO 4 (dO6 bs) bs):=by unfold dO7 anRo; rw [hz]; rfl
 have a3 : dB7 bs = rRb bs (numV 4 (dO6 bs) bs) (numO 4 (dO6 bs) bs):=by unfold dB7 anRb; rw [hz]; rfl
 refine ⟨?_,mr_flat ..⟩
 rw [a1,a2,a3]
 exact mr_con _ _ _ _ _ _ _ _ _ hy hd.o6 (by have:=hd.l; omega) (noneB_no hz).1 (noneB_no hz).2
theorem q_mrn (h : (dRa bs).length = 0) : ConOk Try.prog 42 3 (mnC mrG 256 (dO6 bs) (dB6 bs) bs) ∧ FlatC (mnC mrG 256 (dO6 bs) (dB6 bs) bs) :=
 ⟨mn_con mrG 256 _ _ _ (by kernel_rfl) (by omega) hd.o6 (by have:=hd.l; omega) (noneB_or (dRa_flag h)),⟨fun x hx hne => by
  simp only [rr, tt, mnC,manyE,List.mem_cons,List.not_mem_nil,or_false] at hx
  rcases hx with rfl | rfl <;> exact absurd rfl hne⟩⟩
theorem q_msc (a b c d e f : Value) (hy : YOk a b c d e f) (h : (dSa bs).length ≠ 0) : ConOk Try.prog 42 3 (ms_C a b c d e f (dO7 bs) (dB7 bs) bs (dSa bs) (dO8 bs) (dB8 bs)) ∧ FlatC (ms_C a b c d e f (dO7 bs) (dB7 bs) bs (dSa bs) (dO8 bs) (dB8 bs)):=by
 have hz:=dSa_flag h
 have a1 : dSa bs = rCa bs (numV 4 (dO7 bs) bs) (numO 4 (dO7 bs) bs):=by unfold dSa anCa; rw [hz]; rfl
 have a2 : dO8 bs = rCo bs (numV 4 (dO7 bs) bs) (numO 4 (dO7 bs) bs):=by unfold dO8 anCo; rw [hz]; rfl
 have a3 : dB8 bs = rCb bs (numV 4 (dO7 bs) bs) (numO 4 (dO7 bs) bs):=by unfold dB8 anCb; rw [hz]; rfl
 refine ⟨?_,ms_flat ..⟩
 rw [a1,a2,a3]
 exact ms_con _ _ _ _ _ _ _ _ _ hy hd.o7 (by have:=hd.l; omega) (noneB_no hz).1 (noneB_no hz).2
theorem q_lef : ConOk Try.prog 47 3 (lefC (dO8 bs) bs) ∧ FlatC (lefC (dO8 bs) bs):=⟨lef_con _ _,lef_flat ..⟩
theorem st_aaa1_ok : ∀ x ∈ st_aaa1 bs,ConOk Try.prog x.2.1 3 x.2.2.1 ∧ FlatC x.2.2.1:=by
 intro x hx
 unfold st_aaa1 at hx
 simp only [rr, tt, List.mem_cons,List.not_mem_nil,or_false] at hx
 rcases hx with rfl | rfl | rfl | rfl | rfl | rfl | rfl | rfl | rfl
 ·exact q_ncc hd 0 true (by omega)
 ·exact q_ncc hd (dO1 bs) (dB1 bs) hd.o1
 ·exact q_ncc hd (dO2 bs) (dB2 bs) hd.o2
 ·exact q_mca hd _ _ _ _ _ _ (y_ok6 rfl rfl rfl rfl rfl rfl)
 ·exact q_ncc hd (dO4 bs) (dB4 bs) hd.o4
 ·exact q_tak hd
 ·exact q_mra hd _ _ _ _ _ _ (y_ok6 rfl rfl rfl (slO_ok rfl) rfl rfl)
 ·exact q_msa hd _ _ _ _ _ _ (y_ok6 rfl rfl rfl (slO_ok rfl) rfl (slO_ok rfl))
 ·exact q_lef hd
theorem st_aaa2_ok : ∀ x ∈ st_aaa2 bs,ConOk Try.prog x.2.1 3 x.2.2.1 ∧ FlatC x.2.2.1:=by
 intro x hx
 unfold st_aaa2 at hx
 simp only [rr, tt, List.mem_cons,List.not_mem_nil,or_false] at hx
 rcases hx with rfl | rfl | rfl | rfl | rfl | rfl | rfl | rfl | rfl
 ·exact q_ncc hd 0 true (by omega)
 ·exact q_ncc hd (dO1 bs) (dB1 bs) hd.o1
 ·exact q_ncc hd (dO2 bs) (dB2 bs) hd.o2
 ·exact q_mca hd _ _ _ _ _ _ (y_ok6 rfl rfl rfl rfl rfl rfl)
 ·exact q_ncc hd (dO4 bs) (dB4 bs) hd.o4
 ·exact q_tak hd
 ·exact q_mra hd _ _ _ _ _ _ (y_ok6 rfl rfl rfl (slO_ok rfl) rfl rfl)
 ·exact q_msa hd _ _ _ _ _ _ (y_ok6 rfl rfl rfl (slO_ok rfl) rfl (slO_ok rfl))
 ·exact q_lef hd
theorem st_ono4_ok (hc : (dCa bs).length ≠ 0) (hr : (dRa bs).length = 0) (hs : (dSa bs).length ≠ 0) : ∀ x ∈ st_ono4 bs (dErr bs : Int),ConOk Try.prog x.2.1 3 x.2.2.1 ∧ FlatC x.2.2.1:=by
 intro x hx
 unfold st_ono4 at hx
 simp only [rr, tt, List.mem_cons,List.not_mem_nil,or_false] at hx
 rcases hx with rfl | rfl | rfl | rfl | rfl | rfl | rfl | rfl | rfl | rfl
 ·exact q_ncc hd 0 true (by omega)
 ·exact q_ncc hd (dO1 bs) (dB1 bs) hd.o1
 ·exact q_ncc hd (dO2 bs) (dB2 bs) hd.o2
 ·exact q_mcc hd _ _ _ _ _ _ (y_ok6 rfl rfl rfl rfl rfl rfl) hc
 ·exact q_ncc hd (dO4 bs) (dB4 bs) hd.o4
 ·exact q_tak hd
 ·exact q_mrn hd hr
 ·exact q_msc hd _ _ _ _ _ _ (y_ok6 rfl rfl rfl (sl_ok rfl) rfl rfl) hs
 ·exact q_lef hd
 ·exact ⟨by
   have hi:=dImOk bs
   have h0 : dRa bs = []:=List.eq_nil_of_length_eq_zero hr
   have:=ckNil_con (dP bs) (dS bs) (dT bs) (dCa bs).length (dD bs) (dSa bs) (by rw [h0] at hi; exact hi)
   unfold dErr; rw [h0]; exact this,⟨fun x hx => by cases hx⟩⟩
theorem st_ooo4_ok (hc : (dCa bs).length ≠ 0) (hr : (dRa bs).length ≠ 0) (hs : (dSa bs).length ≠ 0) : ∀ x ∈ st_ooo4 bs (dErr bs : Int),ConOk Try.prog x.2.1 3 x.2.2.1 ∧ FlatC x.2.2.1:=by
 intro x hx
 unfold st_ooo4 at hx
 simp only [rr, tt, List.mem_cons,List.not_mem_nil,or_false] at hx
 rcases hx with rfl | rfl | rfl | rfl | rfl | rfl | rfl | rfl | rfl | rfl
 ·exact q_ncc hd 0 true (by omega)
 ·exact q_ncc hd (dO1 bs) (dB1 bs) hd.o1
 ·exact q_ncc hd (dO2 bs) (dB2 bs) hd.o2
 ·exact q_mcc hd _ _ _ _ _ _ (y_ok6 rfl rfl rfl rfl rfl rfl) hc
 ·exact q_ncc hd (dO4 bs) (dB4 bs) hd.o4
 ·exact q_tak hd
 ·exact q_mrc hd _ _ _ _ _ _ (y_ok6 rfl rfl rfl (sl_ok rfl) rfl rfl) hr
 ·exact q_msc hd _ _ _ _ _ _ (y_ok6 rfl rfl rfl (sl_ok rfl) rfl (sl_ok rfl)) hs
 ·exact q_lef hd
 ·exact ⟨ichk_con _ _ _ _ _ _ _ (dImOk bs),⟨fun x hx => by cases hx⟩⟩
theorem no_of {st : Sy.Steps} (hs : ∀ x ∈ st,ConOk Try.prog x.2.1 3 x.2.2.1 ∧ FlatC x.2.2.1) (h : ∃ (T : List (Nat × Bool)) (q : Prop),obs (evF Try.prog (baseF 3 (selSteps st) noBase) noLoop 100 10 20 [.string ⟨⟨bs⟩⟩] ⟨64,[],[],0,T,0,True⟩) = some (.tuple ⟨[errImg,.int .i64 4]⟩,q) ∧ q) :
  ConOk Try.prog 20 3 (Con.pure [.string ⟨⟨bs⟩⟩] (.tuple ⟨[errImg,.int .i64 4]⟩)):=by
 obtain ⟨T,q,h1,h2⟩:=h
 exact pure_run (run_ok (L:=100) i_names (baseF_ok (selSteps_ok hs) (noBase_ok _)) (noLoop_ok _) 10) h1 h2 rfl rfl
theorem dOK_is (h : dOK bs = true) : dB5 bs = true ∧ dB8 bs = true ∧ bs.length - dO8 bs = 0 ∧ dErr bs = 0 ∧ (dCa bs).length ≠ 0 ∧ (dSa bs).length ≠ 0:=by
 unfold dOK at h
 simp only [rr, tt, Bool.and_eq_true] at h
 obtain ⟨h8,h1,h2⟩:=h
 have e1:=Nat.eq_of_beq_eq_true h1
 have e2:=Nat.eq_of_beq_eq_true h2
 refine ⟨?_,h8,e1,e2,?_,?_⟩
 ·cases h5 : dB5 bs
  ·rw [dB8_of5 h5] at h8; cases h8
  ·rfl
 ·intro e
  unfold dErr errOf isArg at e2
  rw [e] at e2
  cases hl : isLong 0 (dD bs).length (dRa bs).length (dSa bs).length <;> rw [hl] at e2 <;> simp at e2
 ·intro e
  unfold dErr errOf isArg at e2
  rw [e] at e2
  cases hl : isLong (dCa bs).length (dD bs).length (dRa bs).length 0 <;> rw [hl] at e2 <;> simp at e2
theorem dec_yes_o (h : dOK bs = true) (hr : (dRa bs).length ≠ 0) : ConOk Try.prog 20 3 (yesO bs (dP bs) (dS bs) (dT bs) (dCa bs) (dRa bs) (dSa bs) (dD bs)):=by
 obtain ⟨h5,h8,hl,he,hc,hs⟩:=dOK_is hd h
 exact dec_ooo4 bs (dErr bs : Int) hd h5 h8 hl (by omega) (st_ooo4_ok hd hc hr hs)
theorem dec_yes_n (h : dOK bs = true) (hr : (dRa bs).length = 0) : ConOk Try.prog 20 3 (yesN bs (dP bs) (dS bs) (dT bs) (dCa bs) (dSa bs) (dD bs)):=by
 obtain ⟨h5,h8,hl,he,hc,hs⟩:=dOK_is hd h
 exact dec_ono4 bs (dErr bs : Int) hd h5 h8 hl (by omega) (dRa_flag hr) (st_ono4_ok hd hc hr hs)
end
end Go.Proofs.Ytdljpnebpoaeiaa
namespace Go.Proofs.Ytdljpnebpoaeiaa
open Go.RowKit
open Sy
theorem leB_leV : ∀ (w : Nat) (l : List UInt8),w ≤ l.length → l = leB w (leV w l) ++ l.drop w
 | 0,l,_ => by simp [leB]
 | w + 1,[],h => by simp at h
 | w + 1,x :: l,h => by
  have ih:=leB_leV w l (by simpa using h)
  have h1 : x.toNat < 256:=UInt8.toNat_lt x
  simp only [rr, tt, leV,leB,List.headD_cons,List.tail_cons,List.drop_succ_cons,List.cons_append]
  have e1 : (x.toNat + 256 * leV w l) % 256 = x.toNat:=by omega
  have e2 : (x.toNat + 256 * leV w l) / 256 = leV w l:=by omega
  rw [e1,e2,← ih]
  simp
theorem leV_leB : ∀ (w n : Nat) (r : List UInt8),n < 256 ^ w → leV w (leB w n ++ r) = n
 | 0,n,r,h => by simp at h; simp [leV,h]
 | w + 1,n,r,h => by
  have h2 : n / 256 < 256 ^ w:=by
   rw [Nat.pow_succ] at h
   omega
  have ih:=leV_leB w (n / 256) r h2
  simp only [rr, tt, leV,leB,List.cons_append,List.headD_cons,List.tail_cons,ih]
  have : (UInt8.ofNat (n % 256)).toNat = n % 256:=by
   rw [UInt8.toNat_ofNat']
   omega
  rw [this]; omega
section
variable {bs : List UInt8}
theorem len_drop (off : Nat) : (bs.drop off).length = bs.length - off:=List.length_drop
theorem rd_num {w off : Nat} (h : numIs w off bs = true) : bs.drop off = leB w (numV w off bs) ++ bs.drop (numO w off bs):=by
 have h1 : w ≤ (bs.drop off).length:=by rw [len_drop]; simpa [numIs] using h
 have:=leB_leV w (bs.drop off) h1
 rw [List.drop_drop] at this
 unfold numV numO
 rw [h]
 exact this
theorem pr_num {w off v : Nat} {r : List UInt8} (h : bs.drop off = leB w v ++ r) (hv : v < 256 ^ w) : numIs w off bs = true ∧ numV w off bs = v ∧ bs.drop (numO w off bs) = r:=by
 have hl : (bs.drop off).length = w + r.length:=by rw [h,List.length_append,leB_len]
 rw [len_drop] at hl
 have h1 : numIs w off bs = true:=by unfold numIs; simp; omega
 refine ⟨h1,?_,?_⟩
 ·unfold numV; rw [h1,h]; exact leV_leB w v r hv
 ·unfold numO; rw [h1]
  show bs.drop (off + w) = r
  rw [← List.drop_drop,h]
  have : (leB w v ++ r).drop (leB w v).length = r:=List.drop_left
  rw [leB_len] at this
  exact this
theorem rd_runC : ∀ (m off : Nat),(runC bs m off).2.2 = true → bs.drop off = (runC bs m off).1.flatMap (leB 4) ++ bs.drop (runC bs m off).2.1 ∧ (runC bs m off).1.length = m
 | 0,off,_ => ⟨rfl,rfl⟩
 | m + 1,off,h => by
  unfold runC at h ⊢
  cases hI : numIs 4 off bs <;> rw [hI] at h
  ·cases h
  ·obtain ⟨e1,e2⟩:=rd_runC m (off + 4) h
   have e3:=rd_num hI
   have e4 : numO 4 off bs = off + 4:=by unfold numO; rw [hI]; rfl
   rw [e4] at e3
   refine ⟨?_,by show _ + 1 = _; rw [e2]⟩
   show bs.drop off = (numV 4 off bs :: (runC bs m (off + 4)).1).flatMap (leB 4) ++ bs.drop (runC bs m (off + 4)).2.1
   rw [List.flatMap_cons,List.append_assoc,← e1]
   exact e3
theorem pr_runC : ∀ (xs : List Nat) (off : Nat) (r : List UInt8),(∀ x ∈ xs,x < 4294967296) → bs.drop off = xs.flatMap (leB 4) ++ r → (runC bs xs.length off).1 = xs ∧ (runC bs xs.length off).2.2 = true ∧ bs.drop (runC bs xs.length off).2.1 = r
 | [],off,r,_,h => ⟨rfl,rfl,h⟩
 | x :: xs,off,r,hx,h => by
  rw [List.flatMap_cons,List.append_assoc] at h
  obtain ⟨h1,h2,h3⟩:=pr_num h (hx x (List.mem_cons_self ..))
  have e4 : numO 4 off bs = off + 4:=by unfold numO; rw [h1]; rfl
  rw [e4] at h3
  obtain ⟨i1,i2,i3⟩:=pr_runC xs (off + 4) r (fun y hy => hx y (List.mem_cons_of_mem _ hy)) h3
  rw [List.length_cons]
  unfold runC
  rw [h1]
  exact ⟨by show numV 4 off bs :: _ = _; rw [h2,i1],i2,i3⟩
theorem rd_rel {off : Nat} (h : rI off bs = true) : bs.drop off = rgB (rRl off bs) ++ bs.drop (rO6 off bs):=by
 unfold rI rB4 rB3 rB2 rB1 at h
 simp only [rr, tt, Bool.and_eq_true] at h
 obtain ⟨⟨⟨⟨⟨⟨h1,h2⟩,h3⟩,h4⟩,hk⟩,h5⟩,h6⟩:=h
 have e1:=rd_num h1
 have e2:=rd_num h2
 have e3:=rd_num h3
 have e4:=rd_num h4
 have e5:=rd_num h5
 have e6:=rd_num h6
 have k1 : numV 1 (rO3 off bs) bs ≤ 1:=by unfold rKd at hk; simp at hk; omega
 have k2 : (bif ((numV 1 (rO3 off bs) bs : Int) == (1 : Int)) then 1 else 0) = numV 1 (rO3 off bs) bs:=by
  rcases Nat.le_one_iff_eq_zero_or_eq_one.1 k1 with e | e <;> rw [e] <;> rfl
 show bs.drop off = (leB 4 (numV 4 off bs) ++ (leB 4 (numV 4 (rO1 off bs) bs) ++ (leB 4 (numV 4 (rO2 off bs) bs) ++ (leB 1 (bif ((numV 1 (rO3 off bs) bs : Int) == (1 : Int)) then 1 else 0) ++ (leB 2 (numV 2 (rO4 off bs) bs) ++ leB 2 (numV 2 (rO5 off bs) bs)))))) ++ bs.drop (rO6 off bs)
 rw [k2]
 simp only [rr, tt, List.append_assoc]
 refine e1.trans (congrArg _ ?_)
 refine e2.trans (congrArg _ ?_)
 refine e3.trans (congrArg _ ?_)
 refine e4.trans (congrArg _ ?_)
 exact e5.trans (congrArg _ e6)
theorem pr_rel {off : Nat} {x : Rl} {r : List UInt8} (hx : RlOk x) (h : bs.drop off = rgB x ++ r) : rI off bs = true ∧ rRl off bs = x ∧ bs.drop (rO6 off bs) = r:=by
 obtain ⟨at_,code,of_,size,perms,typ⟩:=x
 obtain ⟨x1,x2,x3,x4,x5⟩:=hx
 unfold rgB at h
 simp only [rr, tt, List.append_assoc] at h x1 x2 x3 x4 x5
 obtain ⟨a1,a2,a3⟩:=pr_num h x1
 obtain ⟨b1,b2,b3⟩:=pr_num (off:=rO1 off bs) a3 x2
 obtain ⟨c1,c2,c3⟩:=pr_num (off:=rO2 off bs) b3 x3
 obtain ⟨d1,d2,d3⟩:=pr_num (off:=rO3 off bs) c3 (by cases code <;> decide)
 obtain ⟨e1,e2,e3⟩:=pr_num (off:=rO4 off bs) d3 x4
 obtain ⟨f1,f2,f3⟩:=pr_num (off:=rO5 off bs) e3 x5
 have k1 : rKd off bs = true:=by unfold rKd; rw [d2]; cases code <;> rfl
 refine ⟨?_,?_,f3⟩
 ·unfold rI rB4 rB3 rB2 rB1
  rw [a1,b1,c1,d1,e1,f1,k1]; rfl
 ·unfold rRl
  rw [a2,b2,c2,d2,e2,f2]
  congr 1
  cases code <;> rfl
theorem rd_runR : ∀ (m off : Nat),(runR bs m off).2.2 = true → bs.drop off = (runR bs m off).1.flatMap rgB ++ bs.drop (runR bs m off).2.1 ∧ (runR bs m off).1.length = m
 | 0,off,_ => ⟨rfl,rfl⟩
 | m + 1,off,h => by
  unfold runR at h ⊢
  cases hI : rI off bs <;> rw [hI] at h
  ·cases h
  ·obtain ⟨e1,e2⟩:=rd_runR m (rO6 off bs) h
   refine ⟨?_,by show _ + 1 = _; rw [e2]⟩
   show bs.drop off = (rRl off bs :: (runR bs m (rO6 off bs)).1).flatMap rgB ++ bs.drop (runR bs m (rO6 off bs)).2.1
   rw [List.flatMap_cons,List.append_assoc,← e1]
   exact rd_rel hI
theorem pr_runR : ∀ (xs : List Rl) (off : Nat) (r : List UInt8),(∀ x ∈ xs,RlOk x) → bs.drop off = xs.flatMap rgB ++ r → (runR bs xs.length off).1 = xs ∧ (runR bs xs.length off).2.2 = true ∧ bs.drop (runR bs xs.length off).2.1 = r
 | [],off,r,_,h => ⟨rfl,rfl,h⟩
 | x :: xs,off,r,hx,h => by
  rw [List.flatMap_cons,List.append_assoc] at h
  obtain ⟨h1,h2,h3⟩:=pr_rel (hx x (List.mem_cons_self ..)) h
  obtain ⟨i1,i2,i3⟩:=pr_runR xs (rO6 off bs) r (fun y hy => hx y (List.mem_cons_of_mem _ hy)) h3
  rw [List.length_cons]
  unfold runR
  rw [h1]
  exact ⟨by show rRl off bs :: _ = _; rw [h2,i1],i2,i3⟩
theorem rd_manyC {most off : Nat} {b : Bool} (h : anCb most off b bs = true) : b = true ∧ bs.drop off = leB 4 (anCa most off b bs).length ++ ((anCa most off b bs).flatMap (leB 4) ++ bs.drop (anCo most off b bs)):=by
 unfold anCb at h
 unfold anCa anCo
 cases hz : noneB most off b bs <;> rw [hz] at h
 ·obtain ⟨z1,z2⟩:=noneB_no hz
  unfold manyW at z2
  simp only [rr, tt, Bool.and_eq_true] at z2
  obtain ⟨e1,e2⟩:=rd_runC _ _ h
  refine ⟨z2.1.1,?_⟩
  show bs.drop off = leB 4 (runC bs (numV 4 off bs) (numO 4 off bs)).1.length ++ ((runC bs (numV 4 off bs) (numO 4 off bs)).1.flatMap (leB 4) ++ bs.drop (runC bs (numV 4 off bs) (numO 4 off bs)).2.1)
  rw [e2,← e1]
  exact rd_num z2.1.2
 ·have h : manyW most off b bs = true:=h
  have z1:=(noneB_or hz).resolve_right (by rw [h]; simp)
  unfold manyW at h
  simp only [rr, tt, Bool.and_eq_true] at h
  refine ⟨h.1.1,?_⟩
  have:=rd_num h.1.2
  rw [z1] at this
  exact this
theorem rd_manyR {most off : Nat} {b : Bool} (h : anRb most off b bs = true) : b = true ∧ bs.drop off = leB 4 (anRa most off b bs).length ++ ((anRa most off b bs).flatMap rgB ++ bs.drop (anRo most off b bs)):=by
 unfold anRb at h
 unfold anRa anRo
 cases hz : noneB most off b bs <;> rw [hz] at h
 ·obtain ⟨z1,z2⟩:=noneB_no hz
  unfold manyW at z2
  simp only [rr, tt, Bool.and_eq_true] at z2
  obtain ⟨e1,e2⟩:=rd_runR _ _ h
  refine ⟨z2.1.1,?_⟩
  show bs.drop off = leB 4 (runR bs (numV 4 off bs) (numO 4 off bs)).1.length ++ ((runR bs (numV 4 off bs) (numO 4 off bs)).1.flatMap rgB ++ bs.drop (runR bs (numV 4 off bs) (numO 4 off bs)).2.1)
  rw [e2,← e1]
  exact rd_num z2.1.2
 ·have h : manyW most off b bs = true:=h
  have z1:=(noneB_or hz).resolve_right (by rw [h]; simp)
  unfold manyW at h
  simp only [rr, tt, Bool.and_eq_true] at h
  refine ⟨h.1.1,?_⟩
  have:=rd_num h.1.2
  rw [z1] at this
  exact this
theorem pr_manyC {most off : Nat} {xs : List Nat} {r : List UInt8} (hx : ∀ x ∈ xs,x < 4294967296) (hm : xs.length ≤ most) (hm2 : xs.length < 4294967296) (h : bs.drop off = leB 4 xs.length ++ (xs.flatMap (leB 4) ++ r)) : anCa most off true bs = xs ∧ anCb most off true bs = true ∧ bs.drop (anCo most off true bs) = r:=by
 obtain ⟨h1,h2,h3⟩:=pr_num h hm2
 obtain ⟨i1,i2,i3⟩:=pr_runC xs (numO 4 off bs) r hx h3
 have hw : manyW most off true bs = true:=by unfold manyW; rw [h1,h2]; simpa using hm
 unfold anCa anCb anCo rCa rCb rCo
 rw [h2]
 cases hz : noneB most off true bs
 ·exact ⟨i1,i2,i3⟩
 ·have z1:=(noneB_or hz).resolve_right (by rw [hw]; simp)
  rw [h2] at z1
  have : xs = []:=List.eq_nil_of_length_eq_zero z1
  subst this
  exact ⟨rfl,hw,h3⟩
theorem pr_manyR {most off : Nat} {xs : List Rl} {r : List UInt8} (hx : ∀ x ∈ xs,RlOk x) (hm : xs.length ≤ most) (hm2 : xs.length < 4294967296) (h : bs.drop off = leB 4 xs.length ++ (xs.flatMap rgB ++ r)) : anRa most off true bs = xs ∧ anRb most off true bs = true ∧ bs.drop (anRo most off true bs) = r:=by
 obtain ⟨h1,h2,h3⟩:=pr_num h hm2
 obtain ⟨i1,i2,i3⟩:=pr_runR xs (numO 4 off bs) r hx h3
 have hw : manyW most off true bs = true:=by unfold manyW; rw [h1,h2]; simpa using hm
 unfold anRa anRb anRo rRa rRb rRo
 rw [h2]
 cases hz : noneB most off true bs
 ·exact ⟨i1,i2,i3⟩
 ·have z1:=(noneB_or hz).resolve_right (by rw [hw]; simp)
  rw [h2] at z1
  have : xs = []:=List.eq_nil_of_length_eq_zero z1
  subst this
  exact ⟨rfl,hw,h3⟩
theorem rd_tak {k off : Nat} (h : takIs k off bs = true) : bs.drop off = takV k off bs ++ bs.drop (takO k off bs) ∧ (takV k off bs).length = k:=by
 have hk : k ≤ bs.length - off:=by simpa [takIs] using h
 have hv : takV k off bs = (bs.drop off).take k:=by unfold takV; rw [h]; rfl
 have hl : (takV k off bs).length = k:=by rw [hv,List.length_take,len_drop]; omega
 refine ⟨?_,hl⟩
 rw [hv]
 unfold takO
 rw [decide_eq_true hk]
 by_cases h2 : k < bs.length - off
 ·rw [decide_eq_true h2]
  show _ = _ ++ bs.drop (off + k)
  rw [← List.drop_drop,List.take_append_drop]
 ·rw [decide_eq_false h2]
  show _ = _ ++ bs.drop (bs.length + 1)
  have e1 : bs.drop (bs.length + 1) = []:=List.drop_of_length_le (by omega)
  rw [e1,List.append_nil,List.take_of_length_le (by rw [len_drop]; omega)]
theorem pr_tak {off : Nat} {d r : List UInt8} (h : bs.drop off = d ++ r) : takIs d.length off bs = true ∧ takV d.length off bs = d ∧ bs.drop (takO d.length off bs) = r:=by
 have hl : (bs.drop off).length = d.length + r.length:=by rw [h,List.length_append]
 rw [len_drop] at hl
 have h1 : takIs d.length off bs = true:=by unfold takIs; simp; omega
 have h2 : takV d.length off bs = d:=by unfold takV; rw [h1,h]; exact List.take_left
 refine ⟨h1,h2,?_⟩
 have:=(rd_tak h1).1
 rw [h2,h] at this
 exact (List.append_cancel_left this).symm
end
end Go.Proofs.Ytdljpnebpoaeiaa
namespace Go.Proofs.Ytdljpnebpoaeiaa
open Go.RowKit
open Sy
theorem u4_nat (n : Nat) (h : n < 4294967296) : u4 (n : Int) = leB 4 n:=by unfold u4; rw [u32_nat n h]; rfl
theorem u4_i64 (n : Nat) (h : n < 4294967296) : u4 (IntKind.i64.wrap (n : Int)) = leB 4 n:=by rw [wrap_i64 (by omega) (by omega)]; exact u4_nat n h
structure ImgVal (p s t : Int) (co : List Nat) (ro : List Rl) (so : List Nat) (d : List UInt8) : Prop where
 p : 0 ≤ p ∧ p < 4294967296
 s : 0 ≤ s ∧ s < 4294967296
 t : 0 ≤ t ∧ t < 4294967296
 vc : ∀ x ∈ co,x < 4294967296
 vr : ∀ x ∈ ro,RlOk x
 vs : ∀ x ∈ so,x < 4294967296
 nc : co.length ≤ 4096
 nr : ro.length ≤ 256
 ns : so.length ≤ 4
 nd : d.length < 4294967296
theorem img_val {p s t : Int} {co : List Nat} {ro : List Rl} {so : List Nat} {d : List UInt8} (hi : ImOk ro so) (hc : ∀ x ∈ co,x < 4294967296) (he : errOf p s t co.length d ro so = 0) : ImgVal p s t co ro so d:=by
 obtain ⟨h1,h2,h3,h4⟩:=err_long he
 have ha : isArg p s t co.length so.length = false:=by
  unfold errOf at he
  cases hl : isLong co.length d.length ro.length so.length <;> rw [hl] at he <;> try (simp at he; done)
  cases ha : isArg p s t co.length so.length <;> rw [ha] at he <;> first | rfl | (simp at he; done)
 unfold isArg at ha
 simp only [rr, tt, Bool.or_eq_false_iff,decide_eq_false_iff_not] at ha
 exact ⟨by omega,by omega,by omega,hc,hi.rels,hi.nums,h1,h3,h4,by omega⟩
theorem imB_eq {p s t : Int} {co : List Nat} {ro : List Rl} {so : List Nat} {d : List UInt8} (h1 : co.length < 4294967296) (h2 : ro.length < 4294967296) (h3 : so.length < 4294967296) (h4 : d.length < 4294967296) :
  imB p s t co ro so d = u4 p ++ (u4 s ++ (u4 t ++ (leB 4 co.length ++ (co.flatMap (leB 4) ++ (leB 4 d.length ++ (d ++ (leB 4 ro.length ++ (ro.flatMap rgB ++ (leB 4 so.length ++ so.flatMap (leB 4)))))))))):=by
 unfold imB eA2 eA1 eA0
 rw [u4_nat _ h1,u4_nat _ h2,u4_nat _ h3,u4_nat _ h4]
 simp only [rr, tt, List.append_assoc]
theorem rd_all {bs : List UInt8} (h : dB8 bs = true) : bs = imB (dP bs) (dS bs) (dT bs) (dCa bs) (dRa bs) (dSa bs) (dD bs) ++ bs.drop (dO8 bs):=by
 obtain ⟨h7,r8⟩:=rd_manyC (show anCb 4 (dO7 bs) (dB7 bs) bs = true from h)
 obtain ⟨h6,r7⟩:=rd_manyR (show anRb 256 (dO6 bs) (dB6 bs) bs = true from h7)
 have h6 : (dB5 bs && takIs (dK bs) (dO5 bs) bs) = true:=h6
 rw [Bool.and_eq_true] at h6
 obtain ⟨h5,ht⟩:=h6
 have h5 : (dB4 bs && numIs 4 (dO4 bs) bs) = true:=h5
 rw [Bool.and_eq_true] at h5
 obtain ⟨h4,hk⟩:=h5
 obtain ⟨h3,r4⟩:=rd_manyC (show anCb 4096 (dO3 bs) (dB3 bs) bs = true from h4)
 have h3 : (dB2 bs && numIs 4 (dO2 bs) bs) = true:=h3
 rw [Bool.and_eq_true] at h3
 obtain ⟨h2,i3⟩:=h3
 have h2 : (dB1 bs && numIs 4 (dO1 bs) bs) = true:=h2
 rw [Bool.and_eq_true] at h2
 obtain ⟨i1,i2⟩:=h2
 have n1:=rd_num (off:=0) i1
 have n2:=rd_num i2
 have n3:=rd_num i3
 have n5:=rd_num hk
 obtain ⟨n6,l6⟩:=rd_tak ht
 have c1 : (dCa bs).length ≤ 4096:=anCa_len
 have c2 : (dRa bs).length ≤ 256:=anRa_len
 have c3 : (dSa bs).length ≤ 4:=anCa_len
 have c4 : (dD bs).length < 4294967296:=by
  have : (dD bs).length = dK bs:=l6
  rw [this]; exact numV_lt
 rw [imB_eq (by omega) (by omega) (by omega) c4]
 unfold dP dS dT
 rw [u4_i64 _ numV_lt,u4_i64 _ numV_lt,u4_i64 _ numV_lt]
 simp only [rr, tt, List.append_assoc]
 rw [List.drop_zero] at n1
 refine n1.trans (congrArg _ ?_)
 refine n2.trans (congrArg _ ?_)
 refine n3.trans (congrArg _ ?_)
 refine r4.trans (congrArg _ (congrArg _ ?_))
 have l6' : (dD bs).length = numV 4 (dO4 bs) bs:=l6
 rw [l6']
 refine n5.trans (congrArg _ ?_)
 refine n6.trans (congrArg _ ?_)
 exact r7.trans (congrArg _ (congrArg _ r8))
theorem pr_all {p s t : Int} {co : List Nat} {ro : List Rl} {so : List Nat} {d tail bs : List UInt8} (hv : ImgVal p s t co ro so d) (h : bs = imB p s t co ro so d ++ tail) :
  dP bs = p ∧ dS bs = s ∧ dT bs = t ∧ dCa bs = co ∧ dRa bs = ro ∧ dSa bs = so ∧ dD bs = d ∧ dB8 bs = true ∧ bs.drop (dO8 bs) = tail:=by
 obtain ⟨pn,rfl⟩:=Int.eq_ofNat_of_zero_le hv.p.1
 obtain ⟨sn,rfl⟩:=Int.eq_ofNat_of_zero_le hv.s.1
 obtain ⟨tn,rfl⟩:=Int.eq_ofNat_of_zero_le hv.t.1
 have hp : pn < 4294967296:=by have:=hv.p.2; omega
 have hs : sn < 4294967296:=by have:=hv.s.2; omega
 have ht : tn < 4294967296:=by have:=hv.t.2; omega
 have z1:=hv.nc
 have z2:=hv.nr
 have z3:=hv.ns
 have z4:=hv.nd
 have h0 : bs.drop 0 = imB (pn : Int) (sn : Int) (tn : Int) co ro so d ++ tail:=h
 rw [imB_eq (by omega) (by omega) (by omega) (by omega),u4_nat _ hp,u4_nat _ hs,u4_nat _ ht] at h0
 simp only [rr, tt, List.append_assoc] at h0
 obtain ⟨a1,a2,a3⟩:=pr_num (off:=0) h0 hp
 obtain ⟨b1,b2,b3⟩:=pr_num (off:=dO1 bs) a3 hs
 obtain ⟨c1,c2,c3⟩:=pr_num (off:=dO2 bs) b3 ht
 have hB3 : dB3 bs = true:=by unfold dB3 dB2 dB1; rw [a1,b1,c1]; rfl
 obtain ⟨d1,d2,d3⟩:=pr_manyC (off:=dO3 bs) hv.vc hv.nc (by omega) c3
 have e1 : dCa bs = co:=by unfold dCa; rw [hB3]; exact d1
 have e2 : dB4 bs = true:=by unfold dB4; rw [hB3]; exact d2
 have o4 : dO4 bs = anCo 4096 (dO3 bs) true bs:=by unfold dO4; rw [hB3]
 rw [← o4] at d3
 have e3:=d3
 obtain ⟨f1,f2,f3⟩:=pr_num (off:=dO4 bs) e3 (show d.length < 256 ^ 4 by omega)
 have hk : dK bs = d.length:=f2
 obtain ⟨g1,g2,g3⟩:=pr_tak (off:=dO5 bs) f3
 have e5 : dB5 bs = true:=by unfold dB5; rw [e2,f1]; rfl
 have e6 : dB6 bs = true:=by unfold dB6; rw [e5,hk,g1]; rfl
 have e7 : dD bs = d:=by unfold dD; rw [hk]; exact g2
 have o6 : dO6 bs = takO d.length (dO5 bs) bs:=by unfold dO6; rw [hk]
 rw [show takO d.length (dO5 bs) bs = dO6 bs from o6.symm] at g3
 have e8:=g3
 obtain ⟨k1,k2,k3⟩:=pr_manyR (off:=dO6 bs) hv.vr hv.nr (by omega) e8
 have m1 : dRa bs = ro:=by unfold dRa; rw [e6]; exact k1
 have m2 : dB7 bs = true:=by unfold dB7; rw [e6]; exact k2
 have o7 : dO7 bs = anRo 256 (dO6 bs) true bs:=by unfold dO7; rw [e6]
 rw [← o7] at k3
 have m3:=k3
 obtain ⟨q1,q2,q3⟩:=pr_manyC (off:=dO7 bs) hv.vs hv.ns (by omega) m3
 refine ⟨?_,?_,?_,e1,m1,?_,e7,?_,?_⟩
 ·unfold dP; rw [a2]; exact wrap_i64 (by omega) (by omega)
 ·unfold dS; rw [b2]; exact wrap_i64 (by omega) (by omega)
 ·unfold dT; rw [c2]; exact wrap_i64 (by omega) (by omega)
 ·unfold dSa; rw [m2]; exact q1
 ·unfold dB8; rw [m2]; exact q2
 ·unfold dO8; rw [m2]; exact q3
theorem ok_img {p s t : Int} {co : List Nat} {ro : List Rl} {so : List Nat} {d : List UInt8} (hi : ImOk ro so) (hc : ∀ x ∈ co,x < 4294967296) (he : errOf p s t co.length d ro so = 0) : dOK (imB p s t co ro so d) = true:=by
 obtain ⟨h1,h2,h3,h4,h5,h6,h7,h8,h9⟩:=pr_all (tail:=[]) (img_val hi hc he) (List.append_nil _).symm
 unfold dOK dErr
 rw [h1,h2,h3,h4,h5,h6,h7,h8,he]
 have : (imB p s t co ro so d).length - dO8 (imB p s t co ro so d) = 0:=by
  rw [← len_drop,h9]; rfl
 rw [this]; rfl
end Go.Proofs.Ytdljpnebpoaeiaa
namespace Go.Proofs.Ytdljpnebpoaeiaa
open Go.RowKit
open Sy
theorem val_of {bs : List UInt8} (h8 : dB8 bs = true) (hl : bs.length ≤ 900000000) : ImgVal (dP bs) (dS bs) (dT bs) (dCa bs) (dRa bs) (dSa bs) (dD bs):=by
 have hd : (dD bs).length ≤ bs.length:=by
  have h:=congrArg List.length (rd_all h8)
  unfold imB eA2 eA1 at h
  simp only [rr, tt, List.length_append] at h
  omega
 have n1:=numV_lt (off:=0) (bs:=bs)
 have n2:=numV_lt (off:=dO1 bs) (bs:=bs)
 have n3:=numV_lt (off:=dO2 bs) (bs:=bs)
 refine ⟨?_,?_,?_,fun x hx => anCa_lt x hx,(dImOk bs).rels,(dImOk bs).nums,anCa_len,anRa_len,anCa_len,by omega⟩
 ·unfold dP; rw [wrap_i64 (by omega) (by omega)]; omega
 ·unfold dS; rw [wrap_i64 (by omega) (by omega)]; omega
 ·unfold dT; rw [wrap_i64 (by omega) (by omega)]; omega
theorem pr_five {p s t : Int} {co : List Nat} {ro : List Rl} {so : List Nat} {d Q bs : List UInt8} (hv : ImgVal p s t co ro so d) (h : bs = u4 p ++ (u4 s ++ (u4 t ++ (leB 4 co.length ++ (co.flatMap (leB 4) ++ (leB 4 d.length ++ Q)))))) : dB5 bs = true:=by
 obtain ⟨pn,rfl⟩:=Int.eq_ofNat_of_zero_le hv.p.1
 obtain ⟨sn,rfl⟩:=Int.eq_ofNat_of_zero_le hv.s.1
 obtain ⟨tn,rfl⟩:=Int.eq_ofNat_of_zero_le hv.t.1
 have hp : pn < 4294967296:=by have:=hv.p.2; omega
 have hs : sn < 4294967296:=by have:=hv.s.2; omega
 have ht : tn < 4294967296:=by have:=hv.t.2; omega
 have z1:=hv.nc
 have z4:=hv.nd
 have h0:=(List.drop_zero (l:=bs)).trans h
 rw [u4_nat _ hp,u4_nat _ hs,u4_nat _ ht] at h0
 obtain ⟨a1,a2,a3⟩:=pr_num (off:=0) h0 hp
 obtain ⟨b1,b2,b3⟩:=pr_num (off:=dO1 bs) a3 hs
 obtain ⟨c1,c2,c3⟩:=pr_num (off:=dO2 bs) b3 ht
 have hB3 : dB3 bs = true:=by unfold dB3 dB2 dB1; rw [a1,b1,c1]; rfl
 obtain ⟨d1,d2,d3⟩:=pr_manyC (off:=dO3 bs) hv.vc hv.nc (by omega) c3
 have e2 : dB4 bs = true:=by unfold dB4; rw [hB3]; exact d2
 have o4 : dO4 bs = anCo 4096 (dO3 bs) true bs:=by unfold dO4; rw [hB3]
 rw [← o4] at d3
 obtain ⟨f1,f2,f3⟩:=pr_num (off:=dO4 bs) d3 (show d.length < 256 ^ 4 by omega)
 unfold dB5; rw [e2,f1]; rfl
theorem dec_more {p s t : Int} {co : List Nat} {ro : List Rl} {so : List Nat} {d : List UInt8} {x : UInt8} (hd : DOk (imB p s t co ro so d ++ [x])) (hi : ImOk ro so) (hc : ∀ x ∈ co,x < 4294967296) (he : errOf p s t co.length d ro so = 0) : ConOk Try.prog 20 3 (Con.pure [.string ⟨⟨imB p s t co ro so d ++ [x]⟩⟩] (.tuple ⟨[errImg,.int .i64 4]⟩)):=by
 obtain ⟨_,_,_,_,_,_,_,h8,h9⟩:=pr_all (tail:=[x]) (img_val hi hc he) rfl
 have hl : (imB p s t co ro so d ++ [x]).length - dO8 (imB p s t co ro so d ++ [x]) ≠ 0:=by
  rw [← len_drop,h9]; exact Nat.one_ne_zero
 cases h5 : dB5 (imB p s t co ro so d ++ [x])
 ·rw [dB8_of5 h5] at h8; cases h8
 ·exact no_of hd (st_aaa2_ok hd) (dec_aaa2 _ hd h5 h8 hl)
theorem dec_less {p s t : Int} {co : List Nat} {ro : List Rl} {so : List Nat} {d : List UInt8} {b : List UInt8} {x : UInt8} (hd : DOk b) (hi : ImOk ro so) (hc : ∀ x ∈ co,x < 4294967296) (he : errOf p s t co.length d ro so = 0) (hb : imB p s t co ro so d = b ++ [x]) : ConOk Try.prog 20 3 (Con.pure [.string ⟨⟨b⟩⟩] (.tuple ⟨[errImg,.int .i64 4]⟩)):=by
 have hv:=img_val hi hc he
 have h5 : dB5 b = true:=by
  have h1:=congrArg List.dropLast hb
  have z1:=hv.nc; have z2:=hv.nr; have z3:=hv.ns; have z4:=hv.nd
  rw [imB_eq (by omega) (by omega) (by omega) (by omega),List.dropLast_concat] at h1
  have hq : d ++ (leB 4 ro.length ++ (ro.flatMap rgB ++ (leB 4 so.length ++ so.flatMap (leB 4)))) ≠ []:=by
   intro h
   have:=congrArg List.length h
   simp only [rr, tt, List.length_append,leB_len,List.length_nil] at this
   omega
  generalize d ++ (leB 4 ro.length ++ (ro.flatMap rgB ++ (leB 4 so.length ++ so.flatMap (leB 4)))) = Q at h1 hq
  refine pr_five hv (Q:=Q.dropLast) ?_
  rw [← h1]
  simp only [rr, tt, ← List.append_assoc]
  rw [List.dropLast_append_of_ne_nil hq]
 cases h8 : dB8 b
 ·exact no_of hd (st_aaa1_ok hd) (dec_aaa1 b hd h5 h8)
 by_cases hl : b.length - dO8 b = 0
 ·exfalso
  have h:=rd_all h8
  rw [List.drop_of_length_le (show b.length ≤ dO8 b by omega),List.append_nil] at h
  have h2 : imB p s t co ro so d = imB (dP b) (dS b) (dT b) (dCa b) (dRa b) (dSa b) (dD b) ++ [x]:=by rw [← h]; exact hb
  obtain ⟨_,_,_,_,_,_,_,_,h9⟩:=pr_all (tail:=[x]) (val_of h8 hd.l) h2
  obtain ⟨_,_,_,_,_,_,_,_,h10⟩:=pr_all (tail:=[]) (img_val hi hc he) (List.append_nil _).symm
  rw [h9] at h10
  cases h10
 ·exact no_of hd (st_aaa2_ok hd) (dec_aaa2 _ hd h5 h8 hl)
end Go.Proofs.Ytdljpnebpoaeiaa
namespace Go.Proofs.Ytdljpnebpoaeiaa
open Go.ChangeShapes Go.WideShapes Go.ChangeAt Go.RowKit
open Sy
structure BkOk (co : List Nat) (ro : List Rl) (so : List Nat) : Prop where
 im : ImOk ro so
 co : ∀ x ∈ co,x < 4294967296
structure BkO (p s t : Int) (co : List Nat) (ro : List Rl) (so : List Nat) (d : List UInt8) : Prop where
 ok : ConOk Try.prog 20 3 (yesO (imS p s t co ro so d) p s t co ro so d)
structure BkN (p s t : Int) (co so : List Nat) (d : List UInt8) : Prop where
 ok : ConOk Try.prog 20 3 (yesN (imS p s t co [] so d) p s t co so d)
structure BkZ (l : List UInt8) : Prop where
 ok : ConOk Try.prog 20 3 (Con.pure [.string ⟨⟨l⟩⟩] (.tuple ⟨[errImg,.int .i64 4]⟩))
structure BkS (co : List Nat) (ro : List Rl) (so : List Nat) : Prop where
 co : co.length < 9000000000000000000
 ro : ro.length < 9000000000000000000
 so : so.length < 9000000000000000000
def selBk (p s t : Int) (co : List Nat) (ro : List Rl) (so : List Nat) (d : List UInt8) : SelC:=fun f args _ =>
 match args with
 | [.agg ⟨[_,_,_,.slice (some i) _ _,_,.slice (some j) _ _,.slice (some k) _ _]⟩] =>
  bif Nat.beq f 18 then some (imEC p s t co ro so d,[i.block,j.block,k.block],BkOk co ro so)
  else bif Nat.beq f 14 then some (imD p s t co.length d ro so (chkV p s t co.length d ro so),[i.block,j.block,k.block],BkOk co ro so) else none
 | _ => none
theorem selBk_ok (p s t : Int) (co : List Nat) (ro : List Rl) (so : List Nat) (d : List UInt8) : SelOk Try.prog 3 (selBk p s t co ro so d):=by
 intro f args st c ρ q h hq
 unfold selBk at h
 split at h
 ·cases h1 : Nat.beq f 18 <;> rw [h1] at h
  ·simp only [rr, tt, cond_false] at h
   obtain ⟨h2,h3⟩:=bif_some h
   clear h
   have h2:=Nat.eq_of_beq_eq_true h2
   subst h2
   cases h3
   exact ichk_con _ _ _ _ _ ro so hq.im
  ·have h1:=Nat.eq_of_beq_eq_true h1
   subst h1
   cases h
   exact eb_con _ _ _ co ro so _ hq.im hq.co
 ·cases h
def selBkS (p s t : Int) (co : List Nat) (ro : List Rl) (so : List Nat) (d : List UInt8) : SelC:=fun f args _ =>
 match args with
 | [.agg ⟨[_,_,_,.slice (some i) _ _,_,.slice (some j) _ _,.slice (some k) _ _]⟩,.agg ⟨[_,_,_,.slice (some a) _ _,_,.slice (some b) _ _,.slice (some c) _ _]⟩] =>
  bif Nat.beq f 16 then some (smC p s t p s t d d co co so so ro ro,[i.block,j.block,k.block,a.block,b.block,c.block],BkS co ro so) else none
 | _ => none
theorem selBkS_ok (p s t : Int) (co : List Nat) (ro : List Rl) (so : List Nat) (d : List UInt8) : SelOk Try.prog 3 (selBkS p s t co ro so d):=by
 intro f args st c ρ q h hq
 unfold selBkS at h
 split at h
 ·obtain ⟨h2,h3⟩:=bif_some h
  have h2:=Nat.eq_of_beq_eq_true h2
  subst h2
  cases h3
  exact same_con _ _ _ _ _ _ _ _ _ _ _ _ _ _ hq.co hq.ro hq.so
 ·cases h
def selBkZ (p s t : Int) (co so : List Nat) (d : List UInt8) : SelC:=fun f args _ =>
 match args with
 | [.agg ⟨[_,_,_,.slice (some i) _ _,_,.slice (some j) _ _,.slice (some k) _ _]⟩,.agg ⟨[_,_,_,.slice (some a) _ _,_,.slice none _ _,.slice (some c) _ _]⟩] =>
  bif Nat.beq f 16 then some (smzC p s t d co so,[i.block,j.block,k.block,a.block,a.block,c.block],BkS co [] so) else none
 | _ => none
theorem selBkZ_ok (p s t : Int) (co so : List Nat) (d : List UInt8) : SelOk Try.prog 3 (selBkZ p s t co so d):=by
 intro f args st c ρ q h hq
 unfold selBkZ at h
 split at h
 ·obtain ⟨h2,h3⟩:=bif_some h
  have h2:=Nat.eq_of_beq_eq_true h2
  subst h2
  cases h3
  exact smz_con _ _ _ _ _ _ hq.co hq.so
 ·cases h
def selBkD (c : Con) (q : Prop) (nD : Nat) : SelC:=fun f args st =>
 bif Nat.beq f 20 then
  bif Nat.beq st.n nD then some (c,[],q)
  else match args with
   | [.string ⟨⟨l⟩⟩] => some (Con.pure [.string ⟨⟨l⟩⟩] (.tuple ⟨[errImg,.int .i64 4]⟩),[],BkZ l)
   | _ => none
 else none
theorem selBkD_ok {c : Con} {q : Prop} {nD : Nat} (hc : q → ConOk Try.prog 20 3 c) : SelOk Try.prog 3 (selBkD c q nD):=by
 intro f args st c' ρ q' h hq
 unfold selBkD at h
 obtain ⟨h2,h3⟩:=bif_some h
 clear h
 have h2:=Nat.eq_of_beq_eq_true h2
 subst h2
 cases h4 : Nat.beq st.n nD <;> rw [h4] at h3
 ·simp only [rr, tt, cond_false] at h3
  split at h3
  ·cases h3
   exact hq.ok
  ·cases h3
 ·cases h3
  exact hc hq
def baseBO (l : List FuncId) (c : Con) (p s t : Int) (co : List Nat) (ro : List Rl) (so : List Nat) (d : List UInt8) : CallK:=baseT 3 (selOne 9 c [64,65,66] 1) (baseR 3 (selIf (notF l) (selOr (selBk p s t co ro so d) (selOr (selBkD (yesO (imS p s t co ro so d) p s t co ro so d) (BkO p s t co ro so d) 71) (selOr (selBkS p s t co ro so d) selWk)))) noBase)
def baseBN (l : List FuncId) (c : Con) (p s t : Int) (co so : List Nat) (d : List UInt8) : CallK:=baseT 3 (selOne 9 c [64,65,66] 1) (baseR 3 (selIf (notF l) (selOr (selBk p s t co [] so d) (selOr (selBkD (yesN (imS p s t co [] so d) p s t co so d) (BkN p s t co so d) 71) (selOr (selBkZ p s t co so d) selWk)))) noBase)
theorem baseBO_ok (l : List FuncId) {c : Con} {p s t : Int} {co : List Nat} {ro : List Rl} {so : List Nat} {d : List UInt8} (h : ConOk Try.prog 9 3 c) (hi : InId 3 c) : SoundCall Try.prog (baseBO l c p s t co ro so d) :=
 baseT_ok (selOne_ok h hi) (baseR_ok (selIf_ok (selOr_ok (selBk_ok _ _ _ _ _ _ _) (selOr_ok (selBkD_ok fun h => h.ok) (selOr_ok (selBkS_ok _ _ _ _ _ _ _) selWk_ok)))) (noBase_ok _))
theorem baseBN_ok (l : List FuncId) {c : Con} {p s t : Int} {co so : List Nat} {d : List UInt8} (h : ConOk Try.prog 9 3 c) (hi : InId 3 c) : SoundCall Try.prog (baseBN l c p s t co so d) :=
 baseT_ok (selOne_ok h hi) (baseR_ok (selIf_ok (selOr_ok (selBk_ok _ _ _ _ _ _ _) (selOr_ok (selBkD_ok fun h => h.ok) (selOr_ok (selBkZ_ok _ _ _ _ _ _) selWk_ok)))) (noBase_ok _))
theorem ib_e (pages stack types : Int) (data dd : List UInt8) (co : List Nat) (ro : List Rl) (so : List Nat) (a1 a2 a3 : Option Addr) (c1 c2 c3 : Nat) (h0 : Heap) (m1 m2 m3 : Nat) : obs (evF Try.prog (baseBO [8] (ow2C (anV pages stack types data (Value.slice a1 m1 c1) (Value.slice a2 m2 c2) (Value.slice a3 m3 c3)) h0 (lo3 m1 m2 m3) pages stack types dd co ro so) pages stack types co ro so dd) noLoop 100 10 8 [anV pages stack types data (Value.slice a1 m1 c1) (Value.slice a2 m2 c2) (Value.slice a3 m3 c3)] ⟨67,h0,lo3 m1 m2 m3,0,[(0,false),(1,true),(2,true),(3,true)],0,True⟩) = some (Value.bool true,(((((((True∧True∧rr [Value.agg ⟨[.int .i64 pages,.int .i64 stack,.int .i64 types,.slice a1 m1 c1,.string ⟨⟨data⟩⟩,.slice a2 m2 c2,.slice a3 m3 c3]⟩]∧rr h0∧(tt∧m1 ≤ m1)∧(tt∧m2 ≤ m2)∧(tt∧m3 ≤ m3)∧True)∧BkOk co ro so∧(rr (Value.agg ⟨[.int .i64 pages,.int .i64 stack,.int .i64 types,.slice (some ⟨68,0,none⟩) co.length 9223372036854775876,.string ⟨⟨dd⟩⟩,.slice (some ⟨69,0,none⟩) ro.length 9223372036854775877,.slice (some ⟨70,0,none⟩) so.length 9223372036854775878]⟩)∧True)∧(((tt∧(u32s co).all (okV (fun l => l.blt 67) 3) = true∧tt∧tt∧tt∧True∧u32s co = List.map (rnV (lift 67 71 [68,69,70]) 3) (u32s co))∧(tt∧(rels ro).all (okV (fun l => l.blt 67) 3) = true∧tt∧tt∧tt∧True∧rels ro = List.map (rnV (lift 67 71 [68,69,70]) 3) (rels ro))∧(tt∧(u32s so).all (okV (fun l => l.blt 67) 3) = true∧tt∧tt∧tt∧True∧u32s so = List.map (rnV (lift 67 71 [68,69,70]) 3) (u32s so))∧True)∧tt∧tt)∧True)∧BkOk co ro so∧(rr (Value.agg ⟨[.int .i64 pages,.int .i64 stack,.int .i64 types,.slice (some ⟨68,0,none⟩) co.length 9223372036854775876,.string ⟨⟨dd⟩⟩,.slice (some ⟨69,0,none⟩) ro.length 9223372036854775877,.slice (some ⟨70,0,none⟩) so.length 9223372036854775878]⟩)∧True)∧(((tt∧(rels ro).all (okV (fun l => l.blt 67) 3) = true∧tt∧tt∧tt∧True∧rels ro = List.map (rnV (lift 67 71 [68,69,70]) 3) (rels ro))∧(tt∧(u32s so).all (okV (fun l => l.blt 67) 3) = true∧tt∧tt∧tt∧True∧u32s so = List.map (rnV (lift 67 71 [68,69,70]) 3) (u32s so))∧True)∧tt∧tt)∧True)∧((↑(errOf pages stack types co.length dd ro so):Int) != (↑(errOf pages stack types co.length dd ro so):Int)) = false)∧((↑(errOf pages stack types co.length dd ro so):Int) != (0:Int)) = true)∧bytesEq (imS pages stack types co ro so dd) [] = true)∧True∧True∧(True∧tt∧tt)∧True)∧bytesEq (imS pages stack types co ro so dd) [] = true):=by kernel_rfl
theorem ib_o (pages stack types : Int) (data dd : List UInt8) (co : List Nat) (ro : List Rl) (so : List Nat) (a1 a2 a3 : Option Addr) (c1 c2 c3 : Nat) (h0 : Heap) (m1 m2 m3 : Nat) : obs (evF Try.prog (baseBO [8] (ow2C (anV pages stack types data (Value.slice a1 m1 c1) (Value.slice a2 m2 c2) (Value.slice a3 m3 c3)) h0 (lo3 m1 m2 m3) pages stack types dd co ro so) pages stack types co ro so dd) noLoop 100 10 8 [anV pages stack types data (Value.slice a1 m1 c1) (Value.slice a2 m2 c2) (Value.slice a3 m3 c3)] ⟨67,h0,lo3 m1 m2 m3,0,[(0,false),(1,false),(2,false),(3,false),(4,false),(5,false),(6,false),(7,false),(8,false),(9,false),(10,false),(11,false),(12,true),(13,true),(14,true),(15,true),(16,true)],0,True⟩) = some (Value.bool true,(((((((bif (lenT (imS pages stack types co ro so dd)+1).blt 9223372036854775808 then (bif decide ((0:Int) ≤ IntKind.i64.wrap ((↑(lenT (imS pages stack types co ro so dd)):Int) - (1:Int))) && decide (IntKind.i64.wrap ((↑(lenT (imS pages stack types co ro so dd)):Int) - (1:Int)) ≤ (↑(lenT (imS pages stack types co ro so dd)):Int)) then ((((((((((((((((True∧True∧rr [Value.agg ⟨[.int .i64 pages,.int .i64 stack,.int .i64 types,.slice a1 m1 c1,.string ⟨⟨data⟩⟩,.slice a2 m2 c2,.slice a3 m3 c3]⟩]∧rr h0∧(tt∧m1 ≤ m1)∧(tt∧m2 ≤ m2)∧(tt∧m3 ≤ m3)∧True)∧BkOk co ro so∧(rr (Value.agg ⟨[.int .i64 pages,.int .i64 stack,.int .i64 types,.slice (some ⟨68,0,none⟩) co.length 9223372036854775876,.string ⟨⟨dd⟩⟩,.slice (some ⟨69,0,none⟩) ro.length 9223372036854775877,.slice (some ⟨70,0,none⟩) so.length 9223372036854775878]⟩)∧True)∧(((tt∧(u32s co).all (okV (fun l => l.blt 67) 3) = true∧tt∧tt∧tt∧True∧u32s co = List.map (rnV (lift 67 71 [68,69,70]) 3) (u32s co))∧(tt∧(rels ro).all (okV (fun l => l.blt 67) 3) = true∧tt∧tt∧tt∧True∧rels ro = List.map (rnV (lift 67 71 [68,69,70]) 3) (rels ro))∧(tt∧(u32s so).all (okV (fun l => l.blt 67) 3) = true∧tt∧tt∧tt∧True∧u32s so = List.map (rnV (lift 67 71 [68,69,70]) 3) (u32s so))∧True)∧tt∧tt)∧True)∧BkOk co ro so∧(rr (Value.agg ⟨[.int .i64 pages,.int .i64 stack,.int .i64 types,.slice (some ⟨68,0,none⟩) co.length 9223372036854775876,.string ⟨⟨dd⟩⟩,.slice (some ⟨69,0,none⟩) ro.length 9223372036854775877,.slice (some ⟨70,0,none⟩) so.length 9223372036854775878]⟩)∧True)∧(((tt∧(rels ro).all (okV (fun l => l.blt 67) 3) = true∧tt∧tt∧tt∧True∧rels ro = List.map (rnV (lift 67 71 [68,69,70]) 3) (rels ro))∧(tt∧(u32s so).all (okV (fun l => l.blt 67) 3) = true∧tt∧tt∧tt∧True∧u32s so = List.map (rnV (lift 67 71 [68,69,70]) 3) (u32s so))∧True)∧tt∧tt)∧True)∧((↑(errOf pages stack types co.length dd ro so):Int) != (↑(errOf pages stack types co.length dd ro so):Int)) = false)∧((↑(errOf pages stack types co.length dd ro so):Int) != (0:Int)) = false)∧BkO pages stack types co ro so dd∧(rr (Value.string ⟨⟨imS pages stack types co ro so dd⟩⟩)∧True)∧(True∧tt∧tt)∧True)∧rr false)∧rr false)∧rr false)∧BkS co ro so∧(rr (Value.agg ⟨[.int .i64 pages,.int .i64 stack,.int .i64 types,.slice (some ⟨68,0,none⟩) co.length 9223372036854775876,.string ⟨⟨dd⟩⟩,.slice (some ⟨69,0,none⟩) ro.length 9223372036854775877,.slice (some ⟨70,0,none⟩) so.length 9223372036854775878]⟩)∧rr (Value.agg ⟨[.int .i64 pages,.int .i64 stack,.int .i64 types,.slice (some ⟨71,0,none⟩) co.length 9223372036854775879,.string ⟨⟨dd⟩⟩,.slice (some ⟨72,0,none⟩) ro.length 9223372036854775880,.slice (some ⟨73,0,none⟩) so.length 9223372036854775881]⟩)∧True)∧(((tt∧(u32s co).all (okV (fun l => l.blt 70) 3) = true∧tt∧tt∧tt∧True∧u32s co = List.map (rnV (lift 70 75 [68,69,70,71,72,73]) 3) (u32s co))∧(tt∧(rels ro).all (okV (fun l => l.blt 70) 3) = true∧tt∧tt∧tt∧True∧rels ro = List.map (rnV (lift 70 75 [68,69,70,71,72,73]) 3) (rels ro))∧(tt∧(u32s so).all (okV (fun l => l.blt 70) 3) = true∧tt∧tt∧tt∧True∧u32s so = List.map (rnV (lift 70 75 [68,69,70,71,72,73]) 3) (u32s so))∧(tt∧(u32s co).all (okV (fun l => l.blt 70) 3) = true∧tt∧tt∧tt∧True∧List.map (rnV (lift 64 71 []) 3) (u32s co) = List.map (rnV (lift 70 75 [68,69,70,71,72,73]) 3) (u32s co))∧(tt∧(rels ro).all (okV (fun l => l.blt 70) 3) = true∧tt∧tt∧tt∧True∧List.map (rnV (lift 64 71 []) 3) (rels ro) = List.map (rnV (lift 70 75 [68,69,70,71,72,73]) 3) (rels ro))∧(tt∧(u32s so).all (okV (fun l => l.blt 70) 3) = true∧tt∧tt∧tt∧True∧List.map (rnV (lift 64 71 []) 3) (u32s so) = List.map (rnV (lift 70 75 [68,69,70,71,72,73]) 3) (u32s so))∧True)∧tt∧tt)∧True)∧rr false)∧rr false)∧(!sameB pages stack types pages stack types dd dd co co so so ro ro) = false)∧(!sameB pages stack types pages stack types dd dd co co so so ro ro) = false)∧(!sameB pages stack types pages stack types dd dd co co so so ro ro) = false)∧(!sameB pages stack types pages stack types dd dd co co so so ro ro) = false)∧((↑(lenT (imS pages stack types co ro so dd)):Int) == (0:Int)) = false else False)∧BkZ (List.take ((IntKind.i64.wrap ((↑(lenT (imS pages stack types co ro so dd)):Int) - (1:Int))).toNat - 0) (List.drop 0 (imS pages stack types co ro so dd)))∧(rr (Value.string ⟨⟨List.take ((IntKind.i64.wrap ((↑(lenT (imS pages stack types co ro so dd)):Int) - (1:Int))).toNat - 0) (List.drop 0 (imS pages stack types co ro so dd))⟩⟩)∧True)∧(True∧tt∧tt)∧True else False)∧BkZ (imS pages stack types co ro so dd++[(0 : UInt8)])∧(rr (Value.string ⟨⟨imS pages stack types co ro so dd++[(0 : UInt8)]⟩⟩)∧True)∧(True∧tt∧tt)∧True)∧tt)∧tt)∧tt)∧tt)∧True∧True∧(True∧tt∧tt)∧True)∧tt):=by kernel_rfl
theorem ib_n (pages stack types : Int) (data dd : List UInt8) (co so : List Nat) (a1 a2 a3 : Option Addr) (c1 c2 c3 : Nat) (h0 : Heap) (m1 m2 m3 : Nat) : obs (evF Try.prog (baseBN [8] (ow2C (anV pages stack types data (Value.slice a1 m1 c1) (Value.slice a2 m2 c2) (Value.slice a3 m3 c3)) h0 (lo3 m1 m2 m3) pages stack types dd co [] so) pages stack types co so dd) noLoop 100 10 8 [anV pages stack types data (Value.slice a1 m1 c1) (Value.slice a2 m2 c2) (Value.slice a3 m3 c3)] ⟨67,h0,lo3 m1 m2 m3,0,[(0,false),(1,false),(2,false),(3,false),(4,false),(5,false),(6,false),(7,false),(8,false),(9,false),(10,false),(11,false),(12,true),(13,true),(14,true),(15,true),(16,true)],0,True⟩) = some (Value.bool true,(((((((bif (lenT (imS pages stack types co [] so dd)+1).blt 9223372036854775808 then (bif decide ((0:Int) ≤ IntKind.i64.wrap ((↑(lenT (imS pages stack types co [] so dd)):Int) - (1:Int))) && decide (IntKind.i64.wrap ((↑(lenT (imS pages stack types co [] so dd)):Int) - (1:Int)) ≤ (↑(lenT (imS pages stack types co [] so dd)):Int)) then ((((((((((((((((True∧True∧rr [Value.agg ⟨[.int .i64 pages,.int .i64 stack,.int .i64 types,.slice a1 m1 c1,.string ⟨⟨data⟩⟩,.slice a2 m2 c2,.slice a3 m3 c3]⟩]∧rr h0∧(tt∧m1 ≤ m1)∧(tt∧m2 ≤ m2)∧(tt∧m3 ≤ m3)∧True)∧BkOk co [] so∧(rr (Value.agg ⟨[.int .i64 pages,.int .i64 stack,.int .i64 types,.slice (some ⟨68,0,none⟩) co.length 9223372036854775876,.string ⟨⟨dd⟩⟩,.slice (some ⟨69,0,none⟩) ([] : List UInt8).length 9223372036854775877,.slice (some ⟨70,0,none⟩) so.length 9223372036854775878]⟩)∧True)∧(((tt∧(u32s co).all (okV (fun l => l.blt 67) 3) = true∧tt∧tt∧tt∧True∧u32s co = List.map (rnV (lift 67 71 [68,69,70]) 3) (u32s co))∧(tt∧tt∧tt∧tt∧tt∧True∧([] : List Value) = [])∧(tt∧(u32s so).all (okV (fun l => l.blt 67) 3) = true∧tt∧tt∧tt∧True∧u32s so = List.map (rnV (lift 67 71 [68,69,70]) 3) (u32s so))∧True)∧tt∧tt)∧True)∧BkOk co [] so∧(rr (Value.agg ⟨[.int .i64 pages,.int .i64 stack,.int .i64 types,.slice (some ⟨68,0,none⟩) co.length 9223372036854775876,.string ⟨⟨dd⟩⟩,.slice (some ⟨69,0,none⟩) ([] : List UInt8).length 9223372036854775877,.slice (some ⟨70,0,none⟩) so.length 9223372036854775878]⟩)∧True)∧(((tt∧tt∧tt∧tt∧tt∧True∧([] : List Value) = [])∧(tt∧(u32s so).all (okV (fun l => l.blt 67) 3) = true∧tt∧tt∧tt∧True∧u32s so = List.map (rnV (lift 67 71 [68,69,70]) 3) (u32s so))∧True)∧tt∧tt)∧True)∧((↑(errOf pages stack types co.length dd [] so):Int) != (↑(errOf pages stack types co.length dd [] so):Int)) = false)∧((↑(errOf pages stack types co.length dd [] so):Int) != (0:Int)) = false)∧BkN pages stack types co so dd∧(rr (Value.string ⟨⟨imS pages stack types co [] so dd⟩⟩)∧True)∧(True∧tt∧tt)∧True)∧rr false)∧rr false)∧rr false)∧BkS co [] so∧(Value.agg ⟨[.int .i64 pages,.int .i64 stack,.int .i64 types,.slice (some ⟨68,0,none⟩) co.length 9223372036854775876,.string ⟨⟨dd⟩⟩,.slice (some ⟨69,0,none⟩) ([] : List UInt8).length 9223372036854775877,.slice (some ⟨70,0,none⟩) so.length 9223372036854775878]⟩ = Value.agg ⟨[.int .i64 pages,.int .i64 stack,.int .i64 types,.slice (some ⟨68,0,none⟩) co.length 9223372036854775876,.string ⟨⟨dd⟩⟩,.slice (some ⟨69,0,none⟩) 0 9223372036854775877,.slice (some ⟨70,0,none⟩) so.length 9223372036854775878]⟩∧rr (Value.agg ⟨[.int .i64 pages,.int .i64 stack,.int .i64 types,.slice (some ⟨71,0,none⟩) co.length 9223372036854775879,.string ⟨⟨dd⟩⟩,.slice none 0 0,.slice (some ⟨73,0,none⟩) so.length 9223372036854775881]⟩)∧True)∧(((tt∧(u32s co).all (okV (fun l => l.blt 70) 3) = true∧tt∧tt∧tt∧True∧u32s co = List.map (rnV (lift 70 75 [68,69,70,71,71,73]) 3) (u32s co))∧(tt∧(u32s so).all (okV (fun l => l.blt 70) 3) = true∧tt∧tt∧tt∧True∧u32s so = List.map (rnV (lift 70 75 [68,69,70,71,71,73]) 3) (u32s so))∧(tt∧(u32s co).all (okV (fun l => l.blt 70) 3) = true∧tt∧tt∧tt∧True∧List.map (rnV (lift 64 71 []) 3) (u32s co) = List.map (rnV (lift 70 75 [68,69,70,71,71,73]) 3) (u32s co))∧(tt∧(u32s so).all (okV (fun l => l.blt 70) 3) = true∧tt∧tt∧tt∧True∧List.map (rnV (lift 64 71 []) 3) (u32s so) = List.map (rnV (lift 70 75 [68,69,70,71,71,73]) 3) (u32s so))∧True)∧tt∧tt)∧True)∧rr false)∧rr false)∧rr false)∧rr false)∧rr false)∧rr false)∧((↑(lenT (imS pages stack types co [] so dd)):Int) == (0:Int)) = false else False)∧BkZ (List.take ((IntKind.i64.wrap ((↑(lenT (imS pages stack types co [] so dd)):Int) - (1:Int))).toNat - 0) (List.drop 0 (imS pages stack types co [] so dd)))∧(rr (Value.string ⟨⟨List.take ((IntKind.i64.wrap ((↑(lenT (imS pages stack types co [] so dd)):Int) - (1:Int))).toNat - 0) (List.drop 0 (imS pages stack types co [] so dd))⟩⟩)∧True)∧(True∧tt∧tt)∧True else False)∧BkZ (imS pages stack types co [] so dd++[(0 : UInt8)])∧(rr (Value.string ⟨⟨imS pages stack types co [] so dd++[(0 : UInt8)]⟩⟩)∧True)∧(True∧tt∧tt)∧True)∧tt)∧tt)∧tt)∧tt)∧True∧True∧(True∧tt∧tt)∧True)∧tt):=by kernel_rfl
def BackE (p s t : Int) (data d : List UInt8) (co : List Nat) (ro : List Rl) (so : List Nat) (a1 a2 a3 : Option Addr) (c1 c2 c3 : Nat) (h0 : Sy.Heap) (m1 m2 m3 : Nat) : Prop:=∃ (T : List (Nat × Bool)) (q : Prop),obs (evF Try.prog (baseBO [8] (ow2C (anV p s t data (.slice a1 m1 c1) (.slice a2 m2 c2) (.slice a3 m3 c3)) h0 (lo3 m1 m2 m3) p s t d co ro so) p s t co ro so d) noLoop 100 10 8 [anV p s t data (.slice a1 m1 c1) (.slice a2 m2 c2) (.slice a3 m3 c3)] ⟨67,h0,lo3 m1 m2 m3,0,T,0,True⟩) = some (.bool true,q) ∧ q
def BackN (p s t : Int) (data d : List UInt8) (co : List Nat) (so : List Nat) (a1 a2 a3 : Option Addr) (c1 c2 c3 : Nat) (h0 : Sy.Heap) (m1 m2 m3 : Nat) : Prop:=∃ (T : List (Nat × Bool)) (q : Prop),obs (evF Try.prog (baseBN [8] (ow2C (anV p s t data (.slice a1 m1 c1) (.slice a2 m2 c2) (.slice a3 m3 c3)) h0 (lo3 m1 m2 m3) p s t d co [] so) p s t co so d) noLoop 100 10 8 [anV p s t data (.slice a1 m1 c1) (.slice a2 m2 c2) (.slice a3 m3 c3)] ⟨67,h0,lo3 m1 m2 m3,0,T,0,True⟩) = some (.bool true,q) ∧ q
theorem imS_yes {p s t : Int} {co : List Nat} {ro : List Rl} {so : List Nat} {d : List UInt8} (he : errOf p s t co.length d ro so = 0) : imS p s t co ro so d = imB p s t co ro so d:=by unfold imS; rw [he]; rfl
theorem imS_no {p s t : Int} {co : List Nat} {ro : List Rl} {so : List Nat} {d : List UInt8} (he : errOf p s t co.length d ro so ≠ 0) : imS p s t co ro so d = []:=by
 have : Nat.beq (errOf p s t co.length d ro so) 0 = false:=by cases h : Nat.beq (errOf p s t co.length d ro so) 0; rfl; exact absurd (Nat.eq_of_beq_eq_true h) he
 unfold imS; rw [this]; rfl
theorem imB_len {p s t : Int} {co : List Nat} {ro : List Rl} {so : List Nat} {d : List UInt8} (he : errOf p s t co.length d ro so = 0) : 0 < (imB p s t co ro so d).length ∧ (imB p s t co ro so d).length ≤ 800000000:=by
 obtain ⟨_,_,_,_⟩:=err_long he
 rw [imB_eq (by omega) (by omega) (by omega) (by omega)]
 simp only [rr, tt, List.length_append,u4_len,leB_len,flat4_len,flatR_len]
 omega
structure Bk (p s t : Int) (co : List Nat) (ro : List Rl) (so : List Nat) (d : List UInt8) : Prop where
 o : ro.length ≠ 0 → BkO p s t co ro so d
 n : ro = [] → BkN p s t co so d
 less : BkZ (List.take ((IntKind.i64.wrap ((↑(lenT (imS p s t co ro so d)) : Int) - (1 : Int))).toNat - 0) (List.drop 0 (imS p s t co ro so d)))
 more : BkZ (imS p s t co ro so d ++ [(0 : UInt8)])
 pos : 0 < (imS p s t co ro so d).length
 len : (imS p s t co ro so d).length ≤ 800000000
theorem bk_all {p s t : Int} {co : List Nat} {ro : List Rl} {so : List Nat} {d : List UInt8} (hi : BkOk co ro so) (he : errOf p s t co.length d ro so = 0) : Bk p s t co ro so d:=by
 have hv:=img_val hi.im hi.co he
 obtain ⟨l1,l2⟩:=imB_len he
 have hS:=imS_yes he
 have hd : DOk (imB p s t co ro so d):=dOk _ (by omega)
 have hk:=ok_img hi.im hi.co he
 obtain ⟨e1,e2,e3,e4,e5,e6,e7,_,_⟩:=pr_all (tail:=[]) hv (List.append_nil _).symm
 have hle : lenT (imS p s t co ro so d) = (imS p s t co ro so d).length:=lenT_eq _
 refine ⟨fun hr => ⟨?_⟩,fun hr => ⟨?_⟩,⟨?_⟩,⟨?_⟩,by rw [hS]; exact l1,by rw [hS]; exact l2⟩
 ·have h:=dec_yes_o hd hk (by rw [e5]; exact hr)
  rw [e1,e2,e3,e4,e5,e6,e7] at h
  rw [hS]; exact h
 ·have h:=dec_yes_n hd hk (by rw [e5,hr]; rfl)
  rw [e1,e2,e3,e4,e6,e7] at h
  subst hr
  rw [hS]; exact h
 ·rw [hle,hS,wrap_i64 (by omega) (by omega),List.drop_zero]
  obtain ⟨b,x,hb⟩ : ∃ b x,imB p s t co ro so d = b ++ [x]:=by
   have hne : imB p s t co ro so d ≠ []:=fun h => by rw [h] at l1; exact absurd l1 (Nat.lt_irrefl 0)
   exact ⟨_,_,(List.dropLast_concat_getLast hne).symm⟩
  have hl : (imB p s t co ro so d).length = b.length + 1:=by rw [hb,List.length_append]; rfl
  have hn : ((((imB p s t co ro so d).length : Int) - 1).toNat - 0) = b.length:=by omega
  rw [hn,hb,List.take_left']
  ·exact dec_less (dOk _ (by omega)) hi.im hi.co he hb
  ·rfl
 ·rw [hS]
  exact dec_more (dOk _ (by rw [List.length_append]; show _ + 1 ≤ _; omega)) hi.im hi.co he
theorem back_e (p s t : Int) (data d : List UInt8) (co : List Nat) (ro : List Rl) (so : List Nat) (a1 a2 a3 : Option Addr) (c1 c2 c3 : Nat) (h0 : Sy.Heap) (m1 m2 m3 : Nat) (hi : BkOk co ro so) (hs : BkS co ro so) (hr : ro.length ≠ 0 ∨ errOf p s t co.length d ro so ≠ 0) : BackE p s t data d co ro so a1 a2 a3 c1 c2 c3 h0 m1 m2 m3:=by
 have f1 : ∀ p d,(rels ro).all (okV p d) = true:=fun _ _ => flat_all (rels_flat ro)
 have f2 : ∀ σ d,(rels ro).map (rnV σ d) = rels ro:=fun _ _ => flat_map (rels_flat ro)
 have f3 : ∀ xs p d,(u32s xs).all (okV p d) = true:=fun xs _ _ => flat_all (u32s_flat xs)
 have f4 : ∀ xs σ d,(u32s xs).map (rnV σ d) = u32s xs:=fun xs _ _ => flat_map (u32s_flat xs)
 have f5 : ∀ l : List UInt8,bytesEq l l = true:=fun l => by rw [bytesEq_iff]; exact beq_self_eq_true l
 by_cases he : errOf p s t co.length d ro so = 0
 ·have hb:=bk_all hi he
  have f6 : sameB p s t p s t d d co co so so ro ro = true:=by
   have r0 : relsB ro ro = true:=relsB_true ro ro rfl fun i _ => by simp [rlB]
   simp [sameB,r0,f5]
  have f7 : ((↑(lenT (imS p s t co ro so d)) : Int) == (0 : Int)) = false:=by rw [lenT_eq]; have:=hb.pos; simp; exact List.ne_nil_of_length_pos this
  have g1 : (lenT (imS p s t co ro so d) + 1).blt 9223372036854775808 = true:=by rw [lenT_eq]; have:=hb.len; exact blt_t (by omega)
  have g2 : decide ((0 : Int) ≤ IntKind.i64.wrap ((↑(lenT (imS p s t co ro so d)) : Int) - (1 : Int))) = true:=by rw [lenT_eq]; have:=hb.len; have:=hb.pos; rw [wrap_i64 (by omega) (by omega)]; exact decide_eq_true (by omega)
  have g3 : decide (IntKind.i64.wrap ((↑(lenT (imS p s t co ro so d)) : Int) - (1 : Int)) ≤ (↑(lenT (imS p s t co ro so d)) : Int)) = true:=by rw [lenT_eq]; have:=hb.len; have:=hb.pos; rw [wrap_i64 (by omega) (by omega)]; exact decide_eq_true (by omega)
  refine ⟨_,_,ib_o p s t data d co ro so a1 a2 a3 c1 c2 c3 h0 m1 m2 m3,?_⟩
  simp only [rr, tt, f1,f2,f3,f4,f5,f6,f7,g1,g2,g3,he,hi,hs,hb.o (hr.resolve_right fun h => h he),hb.less,hb.more,BEq.rfl,bne_self_eq_false,Bool.not_true,Bool.and_self,decide_true,cond_true,if_true,and_true,true_and,and_self,Nat.le_refl]
  rfl
 ·have hS:=imS_no he
  have f8 : ((↑(errOf p s t co.length d ro so) : Int) != (0 : Int)) = true:=by simp [he]
  refine ⟨_,_,ib_e p s t data d co ro so a1 a2 a3 c1 c2 c3 h0 m1 m2 m3,?_⟩
  simp only [rr, tt, f1,f2,f3,f4,f5,f8,hS,hi,BEq.rfl,bne_self_eq_false,Bool.and_self,decide_true,and_true,true_and,and_self,Nat.le_refl]
theorem back_n (p s t : Int) (data d : List UInt8) (co : List Nat) (so : List Nat) (a1 a2 a3 : Option Addr) (c1 c2 c3 : Nat) (h0 : Sy.Heap) (m1 m2 m3 : Nat) (hi : BkOk co [] so) (hs : BkS co [] so) (he : errOf p s t co.length d [] so = 0) : BackN p s t data d co so a1 a2 a3 c1 c2 c3 h0 m1 m2 m3:=by
 have f3 : ∀ xs p d,(u32s xs).all (okV p d) = true:=fun xs _ _ => flat_all (u32s_flat xs)
 have f4 : ∀ xs σ d,(u32s xs).map (rnV σ d) = u32s xs:=fun xs _ _ => flat_map (u32s_flat xs)
 have f5 : ∀ l : List UInt8,bytesEq l l = true:=fun l => by rw [bytesEq_iff]; exact beq_self_eq_true l
 have hb:=bk_all hi he
 have f7 : ((↑(lenT (imS p s t co [] so d)) : Int) == (0 : Int)) = false:=by rw [lenT_eq]; have:=hb.pos; simp; exact List.ne_nil_of_length_pos this
 have g1 : (lenT (imS p s t co [] so d) + 1).blt 9223372036854775808 = true:=by rw [lenT_eq]; have:=hb.len; exact blt_t (by omega)
 have g2 : decide ((0 : Int) ≤ IntKind.i64.wrap ((↑(lenT (imS p s t co [] so d)) : Int) - (1 : Int))) = true:=by rw [lenT_eq]; have:=hb.len; have:=hb.pos; rw [wrap_i64 (by omega) (by omega)]; exact decide_eq_true (by omega)
 have g3 : decide (IntKind.i64.wrap ((↑(lenT (imS p s t co [] so d)) : Int) - (1 : Int)) ≤ (↑(lenT (imS p s t co [] so d)) : Int)) = true:=by rw [lenT_eq]; have:=hb.len; have:=hb.pos; rw [wrap_i64 (by omega) (by omega)]; exact decide_eq_true (by omega)
 refine ⟨_,_,ib_n p s t data d co so a1 a2 a3 c1 c2 c3 h0 m1 m2 m3,?_⟩
 simp only [rr, tt, f3,f4,f5,f7,g1,g2,g3,he,hi,hs,hb.n rfl,hb.less,hb.more,BEq.rfl,bne_self_eq_false,Bool.not_true,Bool.and_self,decide_true,and_true,true_and,and_self,Nat.le_refl,cond_true,if_true]
 exact ⟨rfl,rfl⟩
theorem imOk_own {rs : List Rl} {starts : List Nat} (h1 : ∀ x ∈ rs,RlOk x) (h2 : ∀ x ∈ starts,x < 4294967296) : ImOk (rs.take 300) (starts.take 6) :=
 ⟨fun x hx => h1 x (List.mem_of_mem_take hx),fun x hx => h2 x (List.mem_of_mem_take hx),by rw [List.length_take]; omega⟩
theorem imageBack_law : LawWalk 8 Try.f8:=by
 intro H enc W base args ds p hval hA
 rw [Try.params8] at hA hval
 obtain ⟨v0,vs0,d0,ds0,p0,q0,hargs,rfl,rfl,h0,r0⟩:=trodAll_cons hA
 obtain ⟨rfl,rfl,rfl⟩:=trodAll_nil r0
 obtain rfl : args = #[v0]:=by cases args; simp_all
 obtain ⟨pages,stack,types,data,cs,rs,starts,v1,v2,v3,i,j,k,B1,O1,C1,B2,O2,C2,B3,O3,C3,S1,S2,S3,rfl,s1,s2,s3,n1,n2,n3⟩:=open_img (hval 0 _ v0 rfl rfl) h0
 have hown : ConOk Try.prog 9 3 (ow2C (inV i j k pages stack types data cs rs starts) (inH i j k cs rs starts) (lo3 cs.length rs.length starts.length) pages stack types (data.take 20000) (cs.take 5000) (rs.take 300) (starts.take 6)):=own_con i j k pages stack types data cs rs starts s1.ok s2.ok s3.ok
 have hid : InId 3 (ow2C (inV i j k pages stack types data cs rs starts) (inH i j k cs rs starts) (lo3 cs.length rs.length starts.length) pages stack types (data.take 20000) (cs.take 5000) (rs.take 300) (starts.take 6)):=own_id (inV i j k pages stack types data cs rs starts) i j k pages stack types data cs rs starts
 have hi : BkOk (cs.take 5000) (rs.take 300) (starts.take 6):=⟨imOk_own n2 n3,fun x hx => n1 x (List.mem_of_mem_take hx)⟩
 have hs : BkS (cs.take 5000) (rs.take 300) (starts.take 6):=⟨by rw [List.length_take]; omega,by rw [List.length_take]; omega,by rw [List.length_take]; omega⟩
 obtain ⟨a1,c1,e1⟩:=sl_form (g:=64) s1.ok
 obtain ⟨a2,c2,e2⟩:=sl_form (g:=65) s2.ok
 obtain ⟨a3,c3,e3⟩:=sl_form (g:=66) s3.ok
 by_cases hc : (rs.take 300).length ≠ 0 ∨ errOf pages stack types (cs.take 5000).length (data.take 20000) (rs.take 300) (starts.take 6) ≠ 0
 ·refine img_walk (run_ok (L:=100) i_names (baseBO_ok (p:=pages) (s:=stack) (t:=types) (co:=cs.take 5000) (ro:=rs.take 300) (so:=starts.take 6) (d:=data.take 20000) [8] hown hid) (noLoop_ok _) 10) (pages:=pages) (stack:=stack) (types:=types) (data:=data) s1 s2 s3 ?_
  have hr:=back_e pages stack types data (data.take 20000) (cs.take 5000) (rs.take 300) (starts.take 6) a1 a2 a3 c1 c2 c3 (inH i j k cs rs starts) cs.length rs.length starts.length hi hs hc
  unfold BackE at hr
  rw [← e1,← e2,← e3] at hr
  exact hr
 ·have hc1 : (rs.take 300).length = 0:=Decidable.byContradiction fun h => hc (.inl h)
  have hc2 : errOf pages stack types (cs.take 5000).length (data.take 20000) (rs.take 300) (starts.take 6) = 0:=Decidable.byContradiction fun h => hc (.inr h)
  have hc1:=List.length_eq_zero_iff.1 hc1
  rw [hc1] at hown hid hi hs hc2
  refine img_walk (run_ok (L:=100) i_names (baseBN_ok (p:=pages) (s:=stack) (t:=types) (co:=cs.take 5000) (so:=starts.take 6) (d:=data.take 20000) [8] hown hid) (noLoop_ok _) 10) (pages:=pages) (stack:=stack) (types:=types) (data:=data) s1 s2 s3 ?_
  have hr:=back_n pages stack types data (data.take 20000) (cs.take 5000) (starts.take 6) a1 a2 a3 c1 c2 c3 (inH i j k cs rs starts) cs.length rs.length starts.length hi hs hc2
  unfold BackN at hr
  rw [← e1,← e2,← e3] at hr
  exact hr
set_option maxRecDepth 100000 in
theorem imageBack_proved : Rows.ImageBackSaid :=
 OpenClaim.holds_of_wide 8 Try.f8 rfl rfl rfl rfl rfl rfl rfl ⟨rfl,rfl,rfl,rfl,rfl⟩ rfl rfl rfl rfl rfl (by kernel_rfl) Try.func8 (by kernel_rfl)
  (of_decide_eq_true (by kernel_rfl)) (by unfold Func.isWrapper; first | (rw [if_pos (by decide +kernel)]; kernel_rfl) | (rw [if_neg (by decide +kernel)]; exact ⟨rfl,rfl⟩))
  (fun os started H enc _ => law_lifted 8 Try.f8 Rows.imageBackSpec Rows.imageBackRow.domain Try.func8 (by kernel_rfl) rfl rfl
   (fun H ds hd => by match ds,hd with | [d0],_ => exact ⟨rfl,rfl,rfl⟩) (by decide +kernel) imageBack_law os started H enc
   (ChangeSpec.witness6 (enc:=enc) (C:=Try.checked) false ⟨#[],#[.agg #[.int .i64 0,.int .i64 0,.int .i64 0,.slice none 0 0,.string ByteArray.empty,.slice none 0 0,.slice none 0 0]],[]⟩ 8 (by kernel_rfl) (by kernel_rfl) (by kernel_rfl) (by kernel_rfl)))
end Go.Proofs.Ytdljpnebpoaeiaa
#print axioms Go.Proofs.Ytdljpnebpoaeiaa.imageBack_proved
