/-
  ImageBack: part 3 of the proof.
-/
import Derived.Below
import Derived.ChangeOld
import Derived.ChangeSame
import Derived.Deep.Fields
import Derived.Deep.Slices
import Derived.Laws.BitsAllLaws
import Derived.Lib.SmallJoins
import Derived.OpenShut
import Derived.ProofKit
import Derived.ShutString
import Derived.Test.YtdljpnebpoaeiaaQImageBackB
import Derived.Test.YtdljpnebpoaeiaaRows
import Derived.WalkKit
set_option linter.unusedSimpArgs false
set_option linter.unusedVariables false
set_option linter.unusedSectionVars false
namespace Go.Proofs.Ytdljpnebpoaeiaa
open Go.RowKit
theorem rrounded_any (b t e : Nat) (w : World) (hb : b < 4294967296) (ht : t ≤ 4294967296) (he : e ≤ 21) :
  Calls Try.prog 68 #[.int .u32 b,.int .u64 t,.int .u8 e] w fun e' w' => e' = .returned (.tuple #[.int .u64 (dnN b e),.int .u64 (upN t e)]) ∧ ∃ m,w' = w.drewN m:=by
 have hp:=pow_le_21 he
 have h0:=pow_pos2 e
 have hd1:=dn_le b e
 have hd3:=up_lt t e
 have hpw : IntKind.u64.wrap ((2 : Int) ^ e) = ((2 ^ e : Nat) : Int):=by
  rw [IntKind.wrap_u64,show ((2 : Int) ^ e) = ((2 ^ e : Nat) : Int) by simp]
  generalize 2 ^ e = z at hp
  omega
 unfold dnN at hd1 ⊢
 unfold upN at hd3 ⊢
 obtain ⟨U,hU⟩ : ∃ U,2 ^ e = U:=⟨_,rfl⟩
 rw [hU] at hp h0 hpw hd1 hd3 ⊢
 obtain ⟨x,hx⟩ : ∃ x,b / U = x:=⟨_,rfl⟩
 obtain ⟨y,hy⟩ : ∃ y,(t + (U - 1)) / U = y:=⟨_,rfl⟩
 rw [hx] at hd1 ⊢
 rw [hy] at hd3 ⊢
 obtain ⟨d,hd⟩ : ∃ d,x * U = d:=⟨_,rfl⟩
 obtain ⟨u,hu⟩ : ∃ u,y * U = u:=⟨_,rfl⟩
 rw [hd] at hd1 ⊢
 rw [hu] at hd3 ⊢
 have r1 : (b : Int) / (U : Int) = (x : Int):=by rw [← hx]; simp
 have r2 : (t : Int) + U - 1 = ((t + (U - 1) : Nat) : Int):=by omega
 have r3 : IntKind.u64.wrap ((t : Int) + U) = (t : Int) + U:=by rw [IntKind.wrap_u64]; omega
 have r4 : IntKind.u64.wrap ((t : Int) + U - 1) = ((t + (U - 1) : Nat) : Int):=by rw [IntKind.wrap_u64]; omega
 obtain ⟨s,hs⟩ : ∃ s,t + (U - 1) = s:=⟨_,rfl⟩
 rw [hs] at r2 r4 hy
 have r5 : (s : Int) / (U : Int) = (y : Int):=by rw [← hy]; simp
 have r6 : (x : Int) * (U : Int) = (d : Int):=by rw [← hd]; simp
 have r7 : (y : Int) * (U : Int) = (u : Int):=by rw [← hu]; simp
 have r8 : IntKind.u64.wrap (d : Int) = (d : Int):=by rw [IntKind.wrap_u64]; omega
 have r9 : IntKind.u64.wrap (u : Int) = (u : Int):=by rw [IntKind.wrap_u64]; omega
 have hne : ((U : Int) == 0) = false:=by simp; omega
 have hxl : x ≤ 4294967295:=by rw [← hx]; exact Nat.le_trans (Nat.div_le_self _ _) (by omega)
 have hyl : y ≤ 4297064448:=by rw [← hy]; exact Nat.le_trans (Nat.div_le_self _ _) (by omega)
 clear hx hy hd hu hU hs
 go_enter Try.func68,Try.ntmps68
 go_wp2
 go_quiet (fail)
 go_wp2
 go_ret2
 exact ⟨rfl,_,rfl⟩
theorem expo_here {b t k : Nat} (hk : k ≤ 21) (hE : expoN b t = expoFrom b t (21 - k) k) (hf : fitsN b t k = true) : expoN b t = k:=by
 rw [hE]
 rcases Nat.lt_or_ge k 21 with h | h
 ·rw [show 21 - k = (20 - k) + 1 by omega,expoFrom,if_pos hf]
 ·rw [show 21 - k = 0 by omega]; rfl
theorem rexponent_any (b t : Nat) (w : World) (hb : b < 4294967296) (hbt : b ≤ t) (ht : t ≤ 4294967296) :
  Calls Try.prog 67 #[.int .u32 b,.int .u64 t] w fun e' w' => e' = .returned (.int .u8 (expoN b t)) ∧ ∃ m,w' = w.drewN m:=by
 go_enter Try.func67,Try.ntmps67
 go_wp2
 go_loopw [5] (fun i wr => ∃ k m : Nat,k ≤ 21 ∧ i = .int .u8 k ∧ Hid (expoN b t = expoFrom b t (21 - k) k) ∧ wr = w.drewN m) (fun i _ => (21 - intOf i).toNat)
 case atStart => exact ⟨0,0,by omega,rfl,rfl,rfl⟩
 case round =>
  obtain ⟨k,m,hk,rfl,HE,rfl⟩:=hrel
  have hd1:=dn_le b k
  have hd2:=up_ge t k
  have hd3:=up_lt t k
  have hp:=pow_le_21 hk
  have hle : dnN b k ≤ upN t k:=by omega
  have hul : upN t k ≤ 4294967296 + 2097152:=by omega
  have hpw : IntKind.u64.wrap ((2048 : Int) * 2 ^ k) = ((2048 * 2 ^ k : Nat) : Int):=by
   rw [IntKind.wrap_u64,show ((2 : Int) ^ k) = ((2 ^ k : Nat) : Int) by simp]
   generalize 2 ^ k = z at hp
   omega
  obtain ⟨p,hpp⟩ : ∃ p,2048 * 2 ^ k = p:=⟨_,rfl⟩
  obtain ⟨d,hd⟩ : ∃ d,dnN b k = d:=⟨_,rfl⟩
  obtain ⟨u,hu⟩ : ∃ u,upN t k = u:=⟨_,rfl⟩
  have hra:=fun W => rrounded_any b t k W hb ht hk
  have HF : Hid (fitsN b t k = decide (u - d ≤ p)):=by show _ = _; unfold fitsN; rw [hpp,hd,hu]
  rw [hd,hu] at hra hle
  rw [hu] at hul
  rw [hpp] at hpw
  have HRA:=hide hra
  clear hra hpp hd hu hd1 hd2 hd3 hp
  by_cases hf : (u : Int) - d ≤ p
  ·go_wp2_with (go_at_call 68; refine (HRA.out _).mono ?_; rintro e' w' ⟨rfl,m2,rfl⟩)
   go_ret
   have hft : fitsN b t k = true:=by rw [HF.out]; simp; omega
   exact ⟨ret_int (by rw [expo_here hk HE.out hft]),_,rfl⟩
  ·have hft : fitsN b t k = false:=by rw [HF.out]; simp; omega
   have h21 : k < 21:=by
    rcases Nat.lt_or_ge k 21 with h | h
    ·exact h
    ·obtain rfl : k = 21:=by omega
     rw [fits_21 ht] at hft; cases hft
   have HT : Hid (expoN b t = expoFrom b t (21 - (k + 1)) (k + 1)):=by
    show _ = _
    rw [HE.out,show 21 - k = (21 - (k + 1)) + 1 by omega,expoFrom,hft]; rfl
   clear hft
   go_wp2_with (go_at_call 68; refine (HRA.out _).mono ?_; rintro e' w' ⟨rfl,m2,rfl⟩)
   go_roundw
   case rel => exact ⟨k + 1,_,by omega,by go_num,HT,rfl⟩
   case measure => simp [intOf]; omega
theorem rencode_any (b t : Nat) (w : World) (hb : b < 4294967296) (ht : t < 18446744073709551616) :
  Calls Try.prog 58 #[.int .u32 b,.int .u64 t] w fun e' w' => e' = .returned (.tuple #[.int .u8 (encE b t),.int .u16 (encB b t),.int .u16 (encT b t),.bool (encX b t),.bool (rightN b t)]) ∧ ∃ m,w' = w.drewN m:=by
 by_cases hr : rightN b t = true
 ·obtain ⟨h1,h2⟩:=rightN_true hr
  unfold encE encB encT encX
  rw [hr,if_pos rfl,if_pos rfl,if_pos rfl]
  have hex:=fun W => rexponent_any b t W hb h1 h2
  have hk:=expo_le b t
  have hra:=fun W => rrounded_any b t (expoN b t) W hb h2 hk
  obtain ⟨k,hkk⟩ : ∃ k,expoN b t = k:=⟨_,rfl⟩
  rw [hkk] at hk hex hra ⊢
  have hd1:=dn_le b k
  have hd3:=up_lt t k
  have hp:=pow_le_21 hk
  have h0:=pow_pos2 k
  have hpw : IntKind.u64.wrap ((2 : Int) ^ k) = ((2 ^ k : Nat) : Int):=by
   rw [IntKind.wrap_u64,show ((2 : Int) ^ k) = ((2 ^ k : Nat) : Int) by simp]
   generalize 2 ^ k = z at hp
   omega
  obtain ⟨x,hx⟩ : ∃ x,b / 2 ^ k = x:=⟨_,rfl⟩
  have hdx:=dn_div b k
  rw [hx] at hdx ⊢
  obtain ⟨d,hd⟩ : ∃ d,dnN b k = d:=⟨_,rfl⟩
  obtain ⟨u,hu⟩ : ∃ u,upN t k = u:=⟨_,rfl⟩
  rw [hd] at hdx hd1 hra ⊢
  rw [hu] at hd3 hra ⊢
  obtain ⟨y,hy⟩ : ∃ y,u / 2 ^ k = y:=⟨_,rfl⟩
  rw [hy]
  obtain ⟨U,hU⟩ : ∃ U,2 ^ k = U:=⟨_,rfl⟩
  rw [hU] at hp h0 hpw hdx hy hx hd3
  have hxl : x < 4294967296:=by rw [← hx]; exact Nat.lt_of_le_of_lt (Nat.div_le_self _ _) hb
  have hyl : y ≤ 4297064448:=by rw [← hy]; exact Nat.le_trans (Nat.div_le_self _ _) (by omega)
  have i1 : (d : Int) / (U : Int) = (x : Int):=by rw [← hdx]; simp
  have i2 : (u : Int) / (U : Int) = (y : Int):=by rw [← hy]; simp
  have hne : ((U : Int) == 0) = false:=by simp; omega
  obtain ⟨xm,hxm⟩ : ∃ m,x % 4096 = m:=⟨_,rfl⟩
  obtain ⟨ym,hym⟩ : ∃ m,y % 4096 = m:=⟨_,rfl⟩
  have hxml : xm < 4096:=by omega
  have hyml : ym < 4096:=by omega
  have i3 : (x : Int) % 4096 = (xm : Int):=by rw [← hxm]; simp
  have i4 : (y : Int) % 4096 = (ym : Int):=by rw [← hym]; simp
  rw [hxm,hym]
  have HX:=hide hex
  have HRA:=hide hra
  clear hkk hx hdx hd hu hy hxm hym hd1 hd3 hex hra hr hU
  have g1 : decide ((t : Int) < b) = false:=by simp; omega
  have g2 : decide ((4294967296 : Int) < t) = false:=by simp; omega
  by_cases c1 : d = b
  ·have d1 : ((d : Int) == b) = true:=by rw [c1]; simp
   have C1:=hide c1
   clear c1
   go_enter Try.func58,Try.ntmps58
   go_wp2_with (first
    | (go_at_call 67; refine (HX.out _).mono ?_; rintro e' w' ⟨rfl,m1,rfl⟩)
    | (go_at_call 68; refine (HRA.out _).mono ?_; rintro e' w' ⟨rfl,m2,rfl⟩))
   go_quiet (fail)
   go_wp2
   refine bodyPost_ret (results_tmp5 rfl _ _ _) rfl ⟨?_,_,World.drewN_drewN _ _ _⟩
   have c:=C1.out
   simp only [rr, tt, c,decide_true,Bool.true_and]
   exact ret5_bool (beq_cast u t)
  ·have d1 : ((d : Int) == b) = false:=by simp; omega
   have C1:=hide c1
   clear c1
   go_enter Try.func58,Try.ntmps58
   go_wp2_with (first
    | (go_at_call 67; refine (HX.out _).mono ?_; rintro e' w' ⟨rfl,m1,rfl⟩)
    | (go_at_call 68; refine (HRA.out _).mono ?_; rintro e' w' ⟨rfl,m2,rfl⟩))
   go_quiet (fail)
   go_wp2
   refine bodyPost_ret (results_tmp5 rfl _ _ _) rfl ⟨?_,_,World.drewN_drewN _ _ _⟩
   have c:=C1.out
   simp only [rr, tt, c,decide_false,Bool.and_false,Bool.false_and]
   rfl
 ·have hr' : rightN b t = false:=by simpa using hr
  unfold encE encB encT encX
  rw [hr',if_neg (by simp),if_neg (by simp),if_neg (by simp)]
  have hcase : (t : Int) < b ∨ ((b : Int) ≤ t ∧ (4294967296 : Int) < t):=by
   simp only [rr, tt, rightN,Bool.and_eq_false_iff,decide_eq_false_iff_not] at hr'; omega
  clear hr hr'
  rcases hcase with h1 | ⟨h1,h2⟩
  ·go_enter Try.func58,Try.ntmps58
   go_wp2
   exact bodyPost_ret (results_tmp5 rfl _ _ _) rfl ⟨rfl,0,rfl⟩
  ·have g1 : decide ((t : Int) < b) = false:=by simp; omega
   go_enter Try.func58,Try.ntmps58
   go_wp2
   exact bodyPost_ret (results_tmp5 rfl _ _ _) rfl ⟨rfl,0,rfl⟩
theorem fits_zero (s k : Nat) : fitsN 0 s k = decide (upN s k ≤ 2048 * 2 ^ k):=by
 unfold fitsN
 have : dnN 0 k = 0:=by unfold dnN; simp
 rw [this,Nat.sub_zero]
theorem rpad_any (s : Nat) (w : World) (hs : s < 4294967296) :
  Calls Try.prog 66 #[.int .u32 s] w fun e' w' => e' = .returned (.tuple #[.int .u32 (padN s),.int .u32 (padA s)]) ∧ ∃ m,w' = w.drewN m:=by
 go_enter Try.func66,Try.ntmps66
 go_wp2
 go_loopw [4] (fun i wr => ∃ k m : Nat,k ≤ 21 ∧ i = .int .u8 k ∧ Hid (expoN 0 s = expoFrom 0 s (21 - k) k) ∧ wr = w.drewN m) (fun i _ => (21 - intOf i).toNat)
 case atStart => exact ⟨0,0,by omega,rfl,rfl,rfl⟩
 case round =>
  obtain ⟨k,m,hk,rfl,HE,rfl⟩:=hrel
  have hd3:=up_whole (t:=s) hk (by omega)
  have hp:=pow_le_21 hk
  have hpw : IntKind.u64.wrap ((2048 : Int) * 2 ^ k) = ((2048 * 2 ^ k : Nat) : Int):=by
   rw [IntKind.wrap_u64,show ((2 : Int) ^ k) = ((2 ^ k : Nat) : Int) by simp]
   generalize 2 ^ k = z at hp
   omega
  have hpw2 : IntKind.u32.wrap ((2 : Int) ^ k) = ((2 ^ k : Nat) : Int):=by
   rw [IntKind.wrap_u32,show ((2 : Int) ^ k) = ((2 ^ k : Nat) : Int) by simp]
   generalize 2 ^ k = z at hp
   omega
  have hz:=fits_zero s k
  obtain ⟨p,hpp⟩ : ∃ p,2048 * 2 ^ k = p:=⟨_,rfl⟩
  obtain ⟨U,hU⟩ : ∃ U,2 ^ k = U:=⟨_,rfl⟩
  obtain ⟨u,hu⟩ : ∃ u,upN s k = u:=⟨_,rfl⟩
  have hra:=fun W => rrounded_any 0 s k W (by omega) (by omega) hk
  rw [hpp,hu] at hz
  rw [hu] at hra hd3
  rw [show dnN 0 k = 0 by unfold dnN; simp] at hra
  rw [hpp] at hpw
  rw [hU] at hpw2
  have HRA:=hide hra
  have HZ:=hide hz
  have HU:=hide hU
  have HU2:=hide hu
  clear hra hpp hu hU hz hp
  by_cases hf : (u : Int) ≤ p
  ·have hft : fitsN 0 s k = true:=by rw [HZ.out]; simp; omega
   have hEk:=expo_here hk HE.out hft
   have HK : Hid (padN s = (if u = 4294967296 then 0 else u) ∧ padA s = (if u = 4294967296 then 0 else U)):=by
    show _ ∧ _
    unfold padN padA; rw [hEk,HU2.out,HU.out]; exact ⟨rfl,rfl⟩
   clear hft hEk
   by_cases c1 : u = 4294967296
   ·have d1 : ((u : Int) == 4294967296) = true:=by rw [c1]; rfl
    have C1:=hide c1
    clear c1
    go_wp2_with (go_at_call 68; refine (HRA.out _).mono ?_; rintro e' w' ⟨rfl,m2,rfl⟩)
    go_ret2
    refine ⟨ret2_both ?_ ?_,_,rfl⟩
    ·rw [HK.out.1,if_pos C1.out]; rfl
    ·rw [HK.out.2,if_pos C1.out]; rfl
   ·have d1 : ((u : Int) == 4294967296) = false:=by simp; omega
    have d2 : (u : Int) < 4294967296:=by omega
    have C1:=hide c1
    clear c1
    go_wp2_with (go_at_call 68; refine (HRA.out _).mono ?_; rintro e' w' ⟨rfl,m2,rfl⟩)
    go_ret2
    refine ⟨ret2_both ?_ ?_,_,rfl⟩
    ·rw [HK.out.1,if_neg C1.out]
    ·rw [HK.out.2,if_neg C1.out]
  ·have hft : fitsN 0 s k = false:=by rw [HZ.out]; simp; omega
   have h21 : k < 21:=by
    rcases Nat.lt_or_ge k 21 with h | h
    ·exact h
    ·obtain rfl : k = 21:=by omega
     rw [fits_21 (by omega)] at hft; cases hft
   have HT : Hid (expoN 0 s = expoFrom 0 s (21 - (k + 1)) (k + 1)):=by
    show _ = _
    rw [HE.out,show 21 - k = (21 - (k + 1)) + 1 by omega,expoFrom,hft]; rfl
   clear hft
   go_wp2_with (go_at_call 68; refine (HRA.out _).mono ?_; rintro e' w' ⟨rfl,m2,rfl⟩)
   go_roundw
   case rel => exact ⟨k + 1,_,by omega,by go_num,HT,rfl⟩
   case measure => simp [intOf]; omega
end Go.Proofs.Ytdljpnebpoaeiaa
namespace Go.Proofs.Ytdljpnebpoaeiaa
open Go.RowKit
open Sy
def boolsOf (l : List Value) : List Bool:=l.map boolOf'
def selNone : SelC:=fun f args s => bif Nat.beq f 23 then
 match args with
 | [.slice (some a) _ cap] => (Sy.look s.h a.block).map fun k => (noneC (boolsOf k.cells) cap,[a.block],Nat.blt cap big = true ∧ (boolsOf k.cells).length < 9000000000000000000)
 | _ => none
 else none
theorem selNone_ok : SelOk Try.prog 3 selNone:=by
 intro f args s c ρ q h hq
 unfold selNone at h
 obtain ⟨h1,h⟩:=bif_some h
 have h1:=Nat.eq_of_beq_eq_true h1
 subst h1
 split at h
 ·obtain ⟨k,_,h⟩:=Option.map_eq_some_iff.1 h
  simp only [rr, tt, Prod.mk.injEq] at h
  obtain ⟨rfl,rfl,rfl⟩:=h
  exact none_ok _ _ hq.1 hq.2
 ·cases h
def inU32 (x : Int) : Prop:=0 ≤ x ∧ x < 4294967296
def inU64 (x : Int) : Prop:=0 ≤ x ∧ x < 18446744073709551616
def padC (x : Int) : Con:=Con.pure [.int .u32 x] (.tuple ⟨[.int .u32 (padN x.toNat : Nat),.int .u32 (padA x.toNat : Nat)]⟩)
def encC (b t : Int) : Con:=Con.pure [.int .u32 b,.int .u64 t] (.tuple ⟨[.int .u8 (encE b.toNat t.toNat : Nat),.int .u16 (encB b.toNat t.toNat : Nat),.int .u16 (encT b.toNat t.toNat : Nat),.bool (encX b.toNat t.toNat),.bool (rightN b.toNat t.toNat)]⟩)
def selBnd : SelC:=fun f args _ =>
 match args with
 | [.int _ x] => bif Nat.beq f 65 then some (padC x,[],inU32 x) else bif Nat.beq f 66 then some (padC x,[],inU32 x) else none
 | [.int _ b,.int _ t] => bif Nat.beq f 28 then some (encC b t,[],inU32 b ∧ inU64 t) else bif Nat.beq f 58 then some (encC b t,[],inU32 b ∧ inU64 t) else none
 | _ => none
theorem below_n {w w' : World} (h : ∃ m,w' = w.drewN m) : Below w.heap.size w w':=by
 obtain ⟨m,rfl⟩:=h
 exact below_drewN (Below.refl _ _) m
theorem padC_ok {f : FuncId} (he : Enters Try.prog f) (h : ∀ (s : Nat) (w : World),s < 4294967296 → Calls Try.prog f #[.int .u32 s] w fun e' w' => e' = .returned (.tuple #[.int .u32 (padN s),.int .u32 (padA s)]) ∧ ∃ m,w' = w.drewN m) (x : Int) (hx : inU32 x) : ConOk Try.prog f 3 (padC x):=by
 refine conOk_pure he (fun u hu => ?_) rfl fun w => ?_
 ·obtain rfl:=List.mem_singleton.1 hu; rfl
 ·have:=h x.toNat w (by have:=hx.1; have:=hx.2; omega)
  rw [show ((x.toNat : Nat) : Int) = x from Int.toNat_of_nonneg hx.1] at this
  exact this.mono fun _ _ ⟨a,b⟩ => ⟨a,below_n b⟩
theorem encC_ok {f : FuncId} (he : Enters Try.prog f) (h : ∀ (b t : Nat) (w : World),b < 4294967296 → t < 18446744073709551616 → Calls Try.prog f #[.int .u32 b,.int .u64 t] w fun e' w' => e' = .returned (.tuple #[.int .u8 (encE b t),.int .u16 (encB b t),.int .u16 (encT b t),.bool (encX b t),.bool (rightN b t)]) ∧ ∃ m,w' = w.drewN m)
  (b t : Int) (hb : inU32 b) (ht : inU64 t) : ConOk Try.prog f 3 (encC b t):=by
 refine conOk_pure he (fun u hu => ?_) rfl fun w => ?_
 ·rcases List.mem_cons.1 hu with rfl | hu
  ·rfl
  ·obtain rfl:=List.mem_singleton.1 hu; rfl
 ·have:=h b.toNat t.toNat w (by have:=hb.1; have:=hb.2; omega) (by have:=ht.1; have:=ht.2; omega)
  rw [show ((b.toNat : Nat) : Int) = b from Int.toNat_of_nonneg hb.1,show ((t.toNat : Nat) : Int) = t from Int.toNat_of_nonneg ht.1] at this
  exact this.mono fun _ _ ⟨a,b⟩ => ⟨a,below_n b⟩
theorem selBnd_ok : SelOk Try.prog 3 selBnd:=by
 intro f args s c ρ q h hq
 unfold selBnd at h
 split at h
 ·rename_i k x
  cases h1 : Nat.beq f 65 <;> rw [h1] at h
  ·simp only [rr, tt, cond_false] at h
   obtain ⟨h2,h⟩:=bif_some h
   have h2:=Nat.eq_of_beq_eq_true h2
   subst h2
   cases h
   exact padC_ok (enters_b i_names (by kernel_rfl)) (fun s w hs => rpad_any s w hs) x hq
  ·cases h
   have h1:=Nat.eq_of_beq_eq_true h1
   subst h1
   exact padC_ok (enters_b i_names (by kernel_rfl)) (fun s w hs => pad_any s w hs) x hq
 ·rename_i k b k' t
  cases h1 : Nat.beq f 28 <;> rw [h1] at h
  ·simp only [rr, tt, cond_false] at h
   obtain ⟨h2,h⟩:=bif_some h
   have h2:=Nat.eq_of_beq_eq_true h2
   subst h2
   cases h
   exact encC_ok (enters_b i_names (by kernel_rfl)) (fun b t w hb ht => rencode_any b t w hb ht) b t hq.1 hq.2
  ·cases h
   have h1:=Nat.eq_of_beq_eq_true h1
   subst h1
   exact encC_ok (enters_b i_names (by kernel_rfl)) (fun b t w hb ht => encode_any b t w hb ht) b t hq.1 hq.2
 ·cases h
def selI : SelC:=selOr selNone selBnd
theorem selI_ok : SelOk Try.prog 3 selI:=selOr_ok selNone_ok selBnd_ok
end Go.Proofs.Ytdljpnebpoaeiaa
namespace Go.Proofs.Ytdljpnebpoaeiaa
open Go.RowKit
theorem up_mul (a k j : Nat) (h : j ≤ k) : upN (a * 2 ^ k) j = a * 2 ^ k:=by
 refine Nat.le_antisymm ?_ (up_ge _ _)
 have e : a * 2 ^ k = a * 2 ^ (k - j) * 2 ^ j:=by rw [Nat.mul_assoc,← Nat.pow_add,Nat.sub_add_cancel h]
 rw [e]
 exact up_least (Nat.le_refl _)
end Go.Proofs.Ytdljpnebpoaeiaa
namespace Go.Proofs.Ytdljpnebpoaeiaa
open Go.RowKit
open Sy
theorem sized_r (n : Int) : obs (evF Try.prog (baseC 3 selI) noLoop 100 10 52 [Value.int .i64 n] (stT [])) = some (Value.tuple { toList:=[Value.int .u32 (↑(padN (bits BinOp.andNot IntKind.u32 (IntKind.u32.wrap (IntKind.i64.wrap (IntKind.i64.wrap (n+(256:Int)) - (1:Int)))) (255:Int)).toNat):Int),.int .u32 (if (256:Int) > (↑(padA (bits BinOp.andNot IntKind.u32 (IntKind.u32.wrap (IntKind.i64.wrap (IntKind.i64.wrap (n+(256:Int)) - (1:Int)))) (255:Int)).toNat):Int) then (256:Int) else (↑(padA (bits BinOp.andNot IntKind.u32 (IntKind.u32.wrap (IntKind.i64.wrap (IntKind.i64.wrap (n+(256:Int)) - (1:Int)))) (255:Int)).toNat):Int))] },True∧((0:Int) ≤ bits BinOp.andNot IntKind.u32 (IntKind.u32.wrap (IntKind.i64.wrap (IntKind.i64.wrap (n+(256:Int)) - (1:Int)))) (255:Int)∧bits BinOp.andNot IntKind.u32 (IntKind.u32.wrap (IntKind.i64.wrap (IntKind.i64.wrap (n+(256:Int)) - (1:Int)))) (255:Int) < (4294967296:Int))∧(rr (Value.int .u32 (bits BinOp.andNot IntKind.u32 (IntKind.u32.wrap (IntKind.i64.wrap (IntKind.i64.wrap (n+(256:Int)) - (1:Int)))) (255:Int)))∧True)∧True∧True):=by kernel_rfl
theorem rsized_r (n : Int) : obs (evF Try.prog (baseC 3 selI) noLoop 100 10 56 [Value.int .u32 n] (stT [])) = some (Value.tuple { toList:=[Value.int .u32 (↑(padN (IntKind.u32.wrap (IntKind.u32.wrap ((IntKind.u32.wrap (IntKind.u32.wrap (n+(256:Int)) - (1:Int))).tdiv (256:Int)) * (256:Int))).toNat):Int),.int .u32 (if (256:Int) > (↑(padA (IntKind.u32.wrap (IntKind.u32.wrap ((IntKind.u32.wrap (IntKind.u32.wrap (n+(256:Int)) - (1:Int))).tdiv (256:Int)) * (256:Int))).toNat):Int) then (256:Int) else (↑(padA (IntKind.u32.wrap (IntKind.u32.wrap ((IntKind.u32.wrap (IntKind.u32.wrap (n+(256:Int)) - (1:Int))).tdiv (256:Int)) * (256:Int))).toNat):Int))] },True∧((0:Int) ≤ IntKind.u32.wrap (IntKind.u32.wrap ((IntKind.u32.wrap (IntKind.u32.wrap (n+(256:Int)) - (1:Int))).tdiv (256:Int)) * (256:Int))∧IntKind.u32.wrap (IntKind.u32.wrap ((IntKind.u32.wrap (IntKind.u32.wrap (n+(256:Int)) - (1:Int))).tdiv (256:Int)) * (256:Int)) < (4294967296:Int))∧(rr (Value.int .u32 (IntKind.u32.wrap (IntKind.u32.wrap ((IntKind.u32.wrap (IntKind.u32.wrap (n+(256:Int)) - (1:Int))).tdiv (256:Int)) * (256:Int))))∧True)∧True∧True):=by kernel_rfl
theorem and_high32 (a e : Nat) (ha : a < 4294967296) (he : e ≤ 32) : a &&& (4294967295 - (2 ^ e - 1)) = a / 2 ^ e * 2 ^ e:=by
 have h0:=pow_pos2 e
 have h2 : 2 ^ e ≤ 2 ^ 32:=Nat.pow_le_pow_right (by omega) he
 have h1 : 4294967295 - (2 ^ e - 1) = 2 ^ 32 - ((2 ^ e - 1) + 1):=by omega
 rw [h1]
 apply Nat.eq_of_testBit_eq
 intro i
 rw [Nat.testBit_and,Nat.testBit_two_pow_sub_succ (by omega),Nat.testBit_two_pow_sub_one,Nat.testBit_mul_two_pow,Nat.testBit_div_two_pow]
 by_cases hi : e ≤ i
 ·rw [Nat.sub_add_cancel hi]
  have e1 : decide (i < e) = false:=by simp; omega
  have e2 : decide (e ≤ i) = true:=by simpa using hi
  rw [e1,e2]
  by_cases h64 : i < 32
  ·have e3 : decide (i < 32) = true:=by simpa using h64
   rw [e3]; simp
  ·have : a.testBit i = false:=Nat.testBit_lt_two_pow (Nat.lt_of_lt_of_le ha (Nat.pow_le_pow_right (n:=2) (by omega) (show 32 ≤ i by omega)))
   rw [this]; simp
 ·have e1 : decide (i < e) = true:=by simp; omega
  have e2 : decide (e ≤ i) = false:=by simpa using hi
  rw [e1,e2]; simp
theorem struck (a e : Nat) (ha : a < 4294967296) (he : e ≤ 31) : bits .andNot .u32 (a : Int) (((2 ^ e - 1 : Nat)) : Int) = ((a / 2 ^ e * 2 ^ e : Nat) : Int):=by
 have h2 : 2 ^ e ≤ 2 ^ 31:=Nat.pow_le_pow_right (by omega) he
 rw [u32_andNot_nat a (2 ^ e - 1) ha (by omega),and_high32 a e ha (by omega)]
def r256 (n : Nat) : Nat:=(n + 255) / 256 * 256
theorem sized_in (n : Nat) (h : n ≤ 1000000) : bits .andNot .u32 (IntKind.u32.wrap (IntKind.i64.wrap (IntKind.i64.wrap ((n : Int) + 256) - 1))) 255 = ((r256 n : Nat) : Int):=by
 have e1 : IntKind.u32.wrap (IntKind.i64.wrap (IntKind.i64.wrap ((n : Int) + 256) - 1)) = ((n + 255 : Nat) : Int):=by
  rw [wrap_i64 (x:=(n : Int) + 256) (by omega) (by omega),wrap_i64 (by omega) (by omega),IntKind.wrap_u32]; omega
 rw [e1]
 exact struck (n + 255) 8 (by omega) (by omega)
theorem rsized_in (n : Nat) (h : n ≤ 1000000) : IntKind.u32.wrap (IntKind.u32.wrap ((IntKind.u32.wrap (IntKind.u32.wrap ((n : Int) + 256) - 1)).tdiv 256) * 256) = ((r256 n : Nat) : Int):=by
 have e1 : IntKind.u32.wrap (IntKind.u32.wrap ((n : Int) + 256) - 1) = ((n + 255 : Nat) : Int):=by
  rw [IntKind.wrap_u32,IntKind.wrap_u32]; omega
 rw [e1,show ((256 : Int)) = ((256 : Nat) : Int) from rfl,← Int.ofNat_tdiv,IntKind.wrap_u32,IntKind.wrap_u32]
 unfold r256; omega
theorem max_in (a : Nat) : (if (256 : Int) > (a : Int) then (256 : Int) else (a : Int)) = ((max a 256 : Nat) : Int):=by split <;> omega
theorem pad_256 (n : Nat) (h : n ≤ 100000) : padN (r256 n) = r256 n ∧ max (padA (r256 n)) 256 = 256:=by
 have hs : r256 n ≤ 100352:=by unfold r256; omega
 have he : expoN 0 (r256 n) ≤ 6:=by
  rcases Nat.lt_or_ge 6 (expoN 0 (r256 n)) with hlt | hge
  ·have:=expo_least hlt
   unfold fitsN at this
   have h1:=up_lt (r256 n) 6
   have h2:=dn_le 0 6
   simp only [rr, tt, decide_eq_false_iff_not] at this
   omega
  ·exact hge
 have hu : upN (r256 n) (expoN 0 (r256 n)) = r256 n:=by
  have:=up_mul ((n + 255) / 256) 8 (expoN 0 (r256 n)) (by omega)
  exact this
 have hp : 2 ^ expoN 0 (r256 n) ≤ 2 ^ 6:=Nat.pow_le_pow_right (by omega) he
 unfold padN padA
 rw [hu,if_neg (by omega),if_neg (by omega)]
 exact ⟨rfl,by omega⟩
def sizedV (x : Int) : Value:=.tuple ⟨[.int .u32 (r256 x.toNat : Nat),.int .u32 256]⟩
def sizedC (x : Int) : Con:=Con.pure [.int .i64 x] (sizedV x)
def rsizedC (x : Int) : Con:=Con.pure [.int .u32 x] (sizedV x)
def szOk (x : Int) : Prop:=0 ≤ x ∧ x ≤ 100000
theorem sizedC_ok (x : Int) (h : szOk x) : ConOk Try.prog 52 3 (sizedC x):=by
 obtain ⟨n,rfl⟩:=Int.eq_ofNat_of_zero_le h.1
 have hn : n ≤ 100000:=by have:=h.2; omega
 have hr:=sized_r (n : Int)
 rw [sized_in n (by omega),Int.toNat_natCast,max_in,(pad_256 n hn).1,(pad_256 n hn).2] at hr
 refine pure_run (run_ok i_names (baseC_ok selI_ok) (noLoop_ok _) 10) hr ?_ rfl rfl
 exact ⟨trivial,⟨by omega,by unfold r256; omega⟩,⟨rfl,trivial⟩,trivial,trivial⟩
theorem rsizedC_ok (x : Int) (h : szOk x) : ConOk Try.prog 56 3 (rsizedC x):=by
 obtain ⟨n,rfl⟩:=Int.eq_ofNat_of_zero_le h.1
 have hn : n ≤ 100000:=by have:=h.2; omega
 have hr:=rsized_r (n : Int)
 rw [rsized_in n (by omega),Int.toNat_natCast,max_in,(pad_256 n hn).1,(pad_256 n hn).2] at hr
 refine pure_run (run_ok i_names (baseC_ok selI_ok) (noLoop_ok _) 10) hr ?_ rfl rfl
 exact ⟨trivial,⟨by omega,by unfold r256; omega⟩,⟨rfl,trivial⟩,trivial,trivial⟩
def selSz : SelC:=fun f args _ =>
 match args with
 | [.int _ x] => bif Nat.beq f 52 then some (sizedC x,[],szOk x) else bif Nat.beq f 56 then some (rsizedC x,[],szOk x) else none
 | _ => none
theorem selSz_ok : SelOk Try.prog 3 selSz:=by
 intro f args s c ρ q h hq
 unfold selSz at h
 split at h
 ·rename_i k x
  cases h1 : Nat.beq f 52 <;> rw [h1] at h
  ·simp only [rr, tt, cond_false] at h
   obtain ⟨h2,h⟩:=bif_some h
   have h2:=Nat.eq_of_beq_eq_true h2
   subst h2
   cases h
   exact rsizedC_ok x hq
  ·cases h
   have h1:=Nat.eq_of_beq_eq_true h1
   subst h1
   exact sizedC_ok x hq
 ·cases h
def selJ : SelC:=selOr selSz selI
theorem selJ_ok : SelOk Try.prog 3 selJ:=selOr_ok selSz_ok selI_ok
end Go.Proofs.Ytdljpnebpoaeiaa
namespace Go.Proofs.Ytdljpnebpoaeiaa
open Go.RowKit
open Sy
theorem layout_big (pages stack types : Int) (nc nr ns : Nat) (data : List UInt8) : evF Try.prog (baseC 3 selJ) noLoop 100 10 26 [imgV pages stack types nc nr ns data] ⟨67,[],[],0,[(0,true)],0,True⟩ = some (Value.tuple { toList:=[Value.agg ⟨[.int .u32 0,.int .u32 0,.int .u32 0,.int .u32 0,.int .u32 0,.int .u32 0,.int .u32 0,.int .u32 0]⟩,.bool false] },{ n:=77,h:=[],lo:=[],esc:=0,T:=[],k:=1,O:=((True∧((0:Int) ≤ IntKind.i64.wrap ((4:Int) * (↑nc:Int))∧IntKind.i64.wrap ((4:Int) * (↑nc:Int)) ≤ (100000:Int))∧(rr (Value.int .i64 (IntKind.i64.wrap ((4:Int) * (↑nc:Int))))∧True)∧True∧True)∧((0:Int) ≤ (↑(lenT data):Int)∧(↑(lenT data):Int) ≤ (100000:Int))∧(rr (Value.int .i64 (↑(lenT data)))∧True)∧True∧True)∧decide (IntKind.u32.wrap (IntKind.u32.wrap (bits BinOp.andNot IntKind.u32 (IntKind.u32.wrap (IntKind.u32.wrap (IntKind.u32.wrap (bits BinOp.andNot IntKind.u32 (IntKind.u32.wrap (IntKind.u32.wrap (IntKind.u32.wrap ((0:Int)+(↑(r256 (IntKind.i64.wrap ((4:Int) * (↑nc:Int))).toNat):Int))+(256:Int)) - (1:Int))) (255:Int)+(↑(r256 (↑(lenT data):Int).toNat):Int))+(256:Int)) - (1:Int))) (255:Int)+IntKind.u32.wrap (IntKind.i64.wrap (stack * (↑ns:Int))))+(256:Int)) > IntKind.u32.wrap (IntKind.u32.wrap pages * (256:Int))) = true : St }):=by kernel_rfl
theorem layout_ok (pages stack types : Int) (nc nr ns : Nat) (data : List UInt8) : evF Try.prog (baseC 3 selJ) noLoop 100 10 26 [imgV pages stack types nc nr ns data] ⟨67,[],[],0,[(0,false)],0,True⟩ = some (Value.tuple { toList:=[Value.agg ⟨[.int .u32 0,.int .u32 (↑(r256 (IntKind.i64.wrap ((4:Int) * (↑nc:Int))).toNat):Int),.int .u32 (bits BinOp.andNot IntKind.u32 (IntKind.u32.wrap (IntKind.u32.wrap (IntKind.u32.wrap ((0:Int)+(↑(r256 (IntKind.i64.wrap ((4:Int) * (↑nc:Int))).toNat):Int))+(256:Int)) - (1:Int))) (255:Int)),.int .u32 (↑(r256 (↑(lenT data):Int).toNat):Int),.int .u32 (bits BinOp.andNot IntKind.u32 (IntKind.u32.wrap (IntKind.u32.wrap (IntKind.u32.wrap (bits BinOp.andNot IntKind.u32 (IntKind.u32.wrap (IntKind.u32.wrap (IntKind.u32.wrap ((0:Int)+(↑(r256 (IntKind.i64.wrap ((4:Int) * (↑nc:Int))).toNat):Int))+(256:Int)) - (1:Int))) (255:Int)+(↑(r256 (↑(lenT data):Int).toNat):Int))+(256:Int)) - (1:Int))) (255:Int)),.int .u32 (IntKind.u32.wrap (IntKind.i64.wrap (stack * (↑ns:Int)))),.int .u32 (bits BinOp.andNot IntKind.u32 (IntKind.u32.wrap (IntKind.u32.wrap (IntKind.u32.wrap (bits BinOp.andNot IntKind.u32 (IntKind.u32.wrap (IntKind.u32.wrap (IntKind.u32.wrap (bits BinOp.andNot IntKind.u32 (IntKind.u32.wrap (IntKind.u32.wrap (IntKind.u32.wrap ((0:Int)+(↑(r256 (IntKind.i64.wrap ((4:Int) * (↑nc:Int))).toNat):Int))+(256:Int)) - (1:Int))) (255:Int)+(↑(r256 (↑(lenT data):Int).toNat):Int))+(256:Int)) - (1:Int))) (255:Int)+IntKind.u32.wrap (IntKind.i64.wrap (stack * (↑ns:Int))))+(256:Int)) - (1:Int))) (255:Int)),.int .u32 (IntKind.u32.wrap (IntKind.u32.wrap (IntKind.u32.wrap pages * (256:Int)) - IntKind.u32.wrap (bits BinOp.andNot IntKind.u32 (IntKind.u32.wrap (IntKind.u32.wrap (IntKind.u32.wrap (bits BinOp.andNot IntKind.u32 (IntKind.u32.wrap (IntKind.u32.wrap (IntKind.u32.wrap ((0:Int)+(↑(r256 (IntKind.i64.wrap ((4:Int) * (↑nc:Int))).toNat):Int))+(256:Int)) - (1:Int))) (255:Int)+(↑(r256 (↑(lenT data):Int).toNat):Int))+(256:Int)) - (1:Int))) (255:Int)+IntKind.u32.wrap (IntKind.i64.wrap (stack * (↑ns:Int))))))]⟩,.bool true] },{ n:=79,h:=[],lo:=[],esc:=0,T:=[],k:=1,O:=((True∧((0:Int) ≤ IntKind.i64.wrap ((4:Int) * (↑nc:Int))∧IntKind.i64.wrap ((4:Int) * (↑nc:Int)) ≤ (100000:Int))∧(rr (Value.int .i64 (IntKind.i64.wrap ((4:Int) * (↑nc:Int))))∧True)∧True∧True)∧((0:Int) ≤ (↑(lenT data):Int)∧(↑(lenT data):Int) ≤ (100000:Int))∧(rr (Value.int .i64 (↑(lenT data)))∧True)∧True∧True)∧decide (IntKind.u32.wrap (IntKind.u32.wrap (bits BinOp.andNot IntKind.u32 (IntKind.u32.wrap (IntKind.u32.wrap (IntKind.u32.wrap (bits BinOp.andNot IntKind.u32 (IntKind.u32.wrap (IntKind.u32.wrap (IntKind.u32.wrap ((0:Int)+(↑(r256 (IntKind.i64.wrap ((4:Int) * (↑nc:Int))).toNat):Int))+(256:Int)) - (1:Int))) (255:Int)+(↑(r256 (↑(lenT data):Int).toNat):Int))+(256:Int)) - (1:Int))) (255:Int)+IntKind.u32.wrap (IntKind.i64.wrap (stack * (↑ns:Int))))+(256:Int)) > IntKind.u32.wrap (IntKind.u32.wrap pages * (256:Int))) = false : St }):=by kernel_rfl
theorem rlayout_big (pages stack types : Int) (nc nr ns : Nat) (data : List UInt8) : evF Try.prog (baseC 3 selJ) noLoop 100 10 29 [imgV pages stack types nc nr ns data] ⟨67,[],[],0,[(0,true)],0,True⟩ = some (Value.tuple { toList:=[Value.agg ⟨[.int .u32 0,.int .u32 0,.int .u32 0,.int .u32 0,.int .u32 0,.int .u32 0,.int .u32 0,.int .u32 0]⟩,.bool false] },{ n:=70,h:=[],lo:=[],esc:=0,T:=[],k:=1,O:=((True∧((0:Int) ≤ IntKind.u32.wrap ((4:Int) * IntKind.u32.wrap (↑nc))∧IntKind.u32.wrap ((4:Int) * IntKind.u32.wrap (↑nc)) ≤ (100000:Int))∧(rr (Value.int .u32 (IntKind.u32.wrap ((4:Int) * IntKind.u32.wrap (↑nc))))∧True)∧True∧True)∧((0:Int) ≤ IntKind.u32.wrap (↑(lenT data))∧IntKind.u32.wrap (↑(lenT data)) ≤ (100000:Int))∧(rr (Value.int .u32 (IntKind.u32.wrap (↑(lenT data))))∧True)∧True∧True)∧decide (IntKind.u32.wrap (IntKind.u32.wrap (IntKind.u32.wrap (IntKind.u32.wrap (IntKind.u32.wrap ((IntKind.u32.wrap (IntKind.u32.wrap ((↑(r256 (IntKind.u32.wrap ((4:Int) * IntKind.u32.wrap (↑nc))).toNat):Int)+(256:Int)) - (1:Int))).tdiv (256:Int)) * (256:Int))+(↑(r256 (IntKind.u32.wrap (↑(lenT data))).toNat):Int))+IntKind.u32.wrap (IntKind.i64.wrap (stack * (↑ns:Int))))+(256:Int)) > IntKind.u32.wrap (IntKind.i64.wrap (pages * (256:Int)))) = true : St }):=by kernel_rfl
theorem rlayout_ok (pages stack types : Int) (nc nr ns : Nat) (data : List UInt8) : evF Try.prog (baseC 3 selJ) noLoop 100 10 29 [imgV pages stack types nc nr ns data] ⟨67,[],[],0,[(0,false)],0,True⟩ = some (Value.tuple { toList:=[Value.agg ⟨[.int .u32 0,.int .u32 (↑(r256 (IntKind.u32.wrap ((4:Int) * IntKind.u32.wrap (↑nc))).toNat):Int),.int .u32 (IntKind.u32.wrap (IntKind.u32.wrap ((IntKind.u32.wrap (IntKind.u32.wrap ((↑(r256 (IntKind.u32.wrap ((4:Int) * IntKind.u32.wrap (↑nc))).toNat):Int)+(256:Int)) - (1:Int))).tdiv (256:Int)) * (256:Int))),.int .u32 (↑(r256 (IntKind.u32.wrap (↑(lenT data))).toNat):Int),.int .u32 (IntKind.u32.wrap (IntKind.u32.wrap (IntKind.u32.wrap ((IntKind.u32.wrap (IntKind.u32.wrap ((↑(r256 (IntKind.u32.wrap ((4:Int) * IntKind.u32.wrap (↑nc))).toNat):Int)+(256:Int)) - (1:Int))).tdiv (256:Int)) * (256:Int))+(↑(r256 (IntKind.u32.wrap (↑(lenT data))).toNat):Int))),.int .u32 (IntKind.u32.wrap (IntKind.i64.wrap (stack * (↑ns:Int)))),.int .u32 (IntKind.u32.wrap (IntKind.u32.wrap (IntKind.u32.wrap (IntKind.u32.wrap ((IntKind.u32.wrap (IntKind.u32.wrap ((↑(r256 (IntKind.u32.wrap ((4:Int) * IntKind.u32.wrap (↑nc))).toNat):Int)+(256:Int)) - (1:Int))).tdiv (256:Int)) * (256:Int))+(↑(r256 (IntKind.u32.wrap (↑(lenT data))).toNat):Int))+IntKind.u32.wrap (IntKind.i64.wrap (stack * (↑ns:Int))))),.int .u32 (IntKind.u32.wrap (IntKind.u32.wrap (IntKind.i64.wrap (pages * (256:Int))) - IntKind.u32.wrap (IntKind.u32.wrap (IntKind.u32.wrap (IntKind.u32.wrap ((IntKind.u32.wrap (IntKind.u32.wrap ((↑(r256 (IntKind.u32.wrap ((4:Int) * IntKind.u32.wrap (↑nc))).toNat):Int)+(256:Int)) - (1:Int))).tdiv (256:Int)) * (256:Int))+(↑(r256 (IntKind.u32.wrap (↑(lenT data))).toNat):Int))+IntKind.u32.wrap (IntKind.i64.wrap (stack * (↑ns:Int))))))]⟩,.bool true] },{ n:=70,h:=[],lo:=[],esc:=0,T:=[],k:=1,O:=((True∧((0:Int) ≤ IntKind.u32.wrap ((4:Int) * IntKind.u32.wrap (↑nc))∧IntKind.u32.wrap ((4:Int) * IntKind.u32.wrap (↑nc)) ≤ (100000:Int))∧(rr (Value.int .u32 (IntKind.u32.wrap ((4:Int) * IntKind.u32.wrap (↑nc))))∧True)∧True∧True)∧((0:Int) ≤ IntKind.u32.wrap (↑(lenT data))∧IntKind.u32.wrap (↑(lenT data)) ≤ (100000:Int))∧(rr (Value.int .u32 (IntKind.u32.wrap (↑(lenT data))))∧True)∧True∧True)∧decide (IntKind.u32.wrap (IntKind.u32.wrap (IntKind.u32.wrap (IntKind.u32.wrap (IntKind.u32.wrap ((IntKind.u32.wrap (IntKind.u32.wrap ((↑(r256 (IntKind.u32.wrap ((4:Int) * IntKind.u32.wrap (↑nc))).toNat):Int)+(256:Int)) - (1:Int))).tdiv (256:Int)) * (256:Int))+(↑(r256 (IntKind.u32.wrap (↑(lenT data))).toNat):Int))+IntKind.u32.wrap (IntKind.i64.wrap (stack * (↑ns:Int))))+(256:Int)) > IntKind.u32.wrap (IntKind.i64.wrap (pages * (256:Int)))) = false : St }):=by kernel_rfl
section
variable {P : Program} {call : CallK} {f : FuncId}
theorem conOk_flat (hcall : SoundCall P call) {args : List Value} {n : Nat} {T : List (Nat × Bool)} {v : Value} {s' : St} (hng : NG ≤ n) (ha : args.all (okV (fun l => Nat.blt l n) 3) = true) (h : call f args ⟨n,[],[],0,T,0,True⟩ = some (v,s')) (hO : s'.O) (hv : flat2 v = true) (hu : isU v = false) : ConOk P f 3 ⟨args,n,[],[],v,n,[],[]⟩:=by
 refine conOk_run hcall (T:=T) (v:=v) (s':=s') (p:=fun _ => false) (σ:=id) ⟨hng,Nat.le_refl _,trivial,rfl,rfl,rfl,ha,okV_flat2 hv 1,fun x hx => by cases hx⟩ h hO ?_
 exact ⟨fun _ _ => rfl,trivial,rfl,trivial,⟨okV_flat2 hv 1,(rnV_id 3 v).symm⟩,hu,trivial,rfl,bnd_flat2 _ hv,fun x hx => by cases hx⟩
end
def layFrom (stack : Int) (nc ns len : Nat) : Nat:=r256 (4 * nc) + r256 len + stack.toNat * ns
def layBig (pages stack : Int) (nc ns len : Nat) : Bool:=decide (layFrom stack nc ns len + 256 > pages.toNat * 256)
def pk (b : Bool) (x : Nat) : Int:=bif b then 0 else (x : Int)
def layA (pages stack : Int) (nc ns len : Nat) : Value :=
 .agg ⟨[.int .u32 0,.int .u32 (pk (layBig pages stack nc ns len) (r256 (4 * nc))),.int .u32 (pk (layBig pages stack nc ns len) (r256 (4 * nc))),.int .u32 (pk (layBig pages stack nc ns len) (r256 len)),.int .u32 (pk (layBig pages stack nc ns len) (r256 (4 * nc) + r256 len)),.int .u32 (pk (layBig pages stack nc ns len) (stack.toNat * ns)),.int .u32 (pk (layBig pages stack nc ns len) (layFrom stack nc ns len)),.int .u32 (pk (layBig pages stack nc ns len) (pages.toNat * 256 - layFrom stack nc ns len))]⟩
def layR (pages stack : Int) (nc ns len : Nat) : Value:=.tuple ⟨[layA pages stack nc ns len,.bool (!layBig pages stack nc ns len)]⟩
def layOk (pages stack : Int) (nc ns len : Nat) : Prop:=0 ≤ pages ∧ pages ≤ 1024 ∧ 0 ≤ stack ∧ stack ≤ 4096 ∧ stack % 256 = 0 ∧ nc ≤ 4096 ∧ ns ≤ 4 ∧ len ≤ 16384
def layC (pages stack types : Int) (nc nr ns : Nat) (data : List UInt8) : Con:=⟨[imgV pages stack types nc nr ns data],67,[],[],layR pages stack nc ns data.length,67,[],[]⟩
theorem alg256 (x : Nat) (h : x % 256 = 0) (hx : x ≤ 10000000) : bits .andNot .u32 (IntKind.u32.wrap (IntKind.u32.wrap ((x : Int) + 256) - 1)) 255 = (x : Int):=by
 have e1 : IntKind.u32.wrap (IntKind.u32.wrap ((x : Int) + 256) - 1) = ((x + 255 : Nat) : Int):=by
  rw [IntKind.wrap_u32,IntKind.wrap_u32]; omega
 have e2:=struck (x + 255) 8 (by omega) (by omega)
 rw [show (((2 ^ 8 - 1 : Nat)) : Int) = 255 from rfl] at e2
 rw [e1,e2]
 omega
theorem ralg256' (x : Nat) (h : x % 256 = 0) (hx : x ≤ 10000000) : IntKind.u32.wrap (IntKind.u32.wrap ((IntKind.u32.wrap (IntKind.u32.wrap ((x : Int) + 256) - 1)).tdiv 256) * 256) = (x : Int):=by
 have e1 : IntKind.u32.wrap (IntKind.u32.wrap ((x : Int) + 256) - 1) = ((x + 255 : Nat) : Int):=by
  rw [IntKind.wrap_u32,IntKind.wrap_u32]; omega
 rw [e1,show ((256 : Int)) = ((256 : Nat) : Int) from rfl,← Int.ofNat_tdiv,IntKind.wrap_u32,IntKind.wrap_u32]
 omega
theorem r256_mod (n : Nat) : r256 n % 256 = 0:=by unfold r256; omega
theorem r256_le (n : Nat) : r256 n ≤ n + 255:=by unfold r256; omega
theorem u32_nat (x : Nat) (h : x < 4294967296) : IntKind.u32.wrap (x : Int) = (x : Int):=by rw [IntKind.wrap_u32]; omega
theorem u32_add (x y : Nat) (h : x + y < 4294967296) : IntKind.u32.wrap ((x : Int) + (y : Int)) = ((x + y : Nat) : Int):=by rw [IntKind.wrap_u32]; omega
theorem layC_any {f : FuncId} {pages stack types : Int} {nc nr ns : Nat} {data : List UInt8} {T : List (Nat × Bool)} {s' : St} {v : Value} (h : evF Try.prog (baseC 3 selJ) noLoop 100 10 f [imgV pages stack types nc nr ns data] ⟨67,[],[],0,T,0,True⟩ = some (v,s')) (hv : v = layR pages stack nc ns data.length) (hO : s'.O) : ConOk Try.prog f 3 (layC pages stack types nc nr ns data):=by
 subst hv
 refine conOk_flat (run_ok i_names (baseC_ok selJ_ok) (noLoop_ok _) 10) (by decide) ?_ h hO rfl rfl
 kernel_rfl
theorem stack_ns {s ns : Nat} (h1 : s ≤ 4096) (h2 : ns ≤ 4) : s * ns ≤ 16384:=Nat.mul_le_mul h1 h2
theorem lay_prog (pages stack types : Int) (nc nr ns : Nat) (data : List UInt8) (h : layOk pages stack nc ns data.length) : ConOk Try.prog 26 3 (layC pages stack types nc nr ns data):=by
 obtain ⟨h1,h2,h3,h4,h5,h6,h7,h8⟩:=h
 obtain ⟨p,rfl⟩:=Int.eq_ofNat_of_zero_le h1
 obtain ⟨s,rfl⟩:=Int.eq_ofNat_of_zero_le h3
 have hs:=stack_ns (s:=s) (ns:=ns) (by omega) h7
 have q1:=r256_le (4 * nc)
 have q2:=r256_le data.length
 have m1:=r256_mod (4 * nc)
 have m2:=r256_mod data.length
 have m3 : s * ns % 256 = 0:=by rw [Nat.mul_mod,show s % 256 = 0 by omega]; simp
 have e1 : IntKind.i64.wrap ((4 : Int) * (nc : Int)) = ((4 * nc : Nat) : Int):=by rw [wrap_i64 (by omega) (by omega)]; omega
 have e2 : IntKind.u32.wrap ((0 : Int) + ((r256 (4 * nc) : Nat) : Int)) = ((r256 (4 * nc) : Nat) : Int):=by rw [IntKind.wrap_u32]; omega
 have e3 : IntKind.i64.wrap ((s : Int) * (ns : Int)) = ((s * ns : Nat) : Int):=by rw [Int.ofNat_mul_ofNat,wrap_i64 (by omega) (by omega)]
 have e4 : IntKind.u32.wrap (IntKind.u32.wrap (p : Int) * (256 : Int)) = ((p * 256 : Nat) : Int):=by rw [IntKind.wrap_u32,IntKind.wrap_u32]; omega
 have hd:=layout_big (p : Int) (s : Int) types nc nr ns data
 have hk:=layout_ok (p : Int) (s : Int) types nc nr ns data
 simp only [rr, tt, e1,Int.toNat_natCast,lenT_eq,e2,alg256 _ m1 (by omega),u32_add (r256 (4 * nc)) (r256 data.length) (by omega),alg256 (r256 (4 * nc) + r256 data.length) (by omega) (by omega),e3,u32_nat (s * ns) (by omega),u32_add (r256 (4 * nc) + r256 data.length) (s * ns) (by omega),alg256 (r256 (4 * nc) + r256 data.length + s * ns) (by omega) (by omega),e4] at hd hk
 cases hb : layBig (p : Int) (s : Int) nc ns data.length
 ·have hb' : r256 (4 * nc) + r256 data.length + s * ns + 256 ≤ p * 256:=by
   unfold layBig layFrom at hb; simp only [rr, tt, Int.toNat_natCast,decide_eq_false_iff_not] at hb; omega
  have e5 : IntKind.u32.wrap (((p * 256 : Nat) : Int) - ((r256 (4 * nc) + r256 data.length + s * ns : Nat) : Int)) = ((p * 256 - (r256 (4 * nc) + r256 data.length + s * ns) : Nat) : Int):=by rw [IntKind.wrap_u32]; omega
  rw [e5] at hk
  refine layC_any (T:=[(0,false)]) hk ?_ ?_
  ·unfold layR layA
   rw [hb]
   rfl
  ·refine ⟨⟨⟨trivial,⟨by omega,by omega⟩,⟨trivial,trivial⟩,trivial,trivial⟩,⟨by omega,by omega⟩,⟨trivial,trivial⟩,trivial,trivial⟩,?_⟩
   rw [IntKind.wrap_u32]
   simp only [rr, tt, decide_eq_false_iff_not]; omega
 ·have hb' : ¬ (r256 (4 * nc) + r256 data.length + s * ns + 256 ≤ p * 256):=by
   unfold layBig layFrom at hb; simp only [rr, tt, Int.toNat_natCast,decide_eq_true_eq] at hb; omega
  refine layC_any (T:=[(0,true)]) hd ?_ ?_
  ·unfold layR layA
   rw [hb]
   rfl
  ·refine ⟨⟨⟨trivial,⟨by omega,by omega⟩,⟨trivial,trivial⟩,trivial,trivial⟩,⟨by omega,by omega⟩,⟨trivial,trivial⟩,trivial,trivial⟩,?_⟩
   rw [IntKind.wrap_u32]
   simp only [rr, tt, decide_eq_true_eq]; omega
theorem lay_ref (pages stack types : Int) (nc nr ns : Nat) (data : List UInt8) (h : layOk pages stack nc ns data.length) : ConOk Try.prog 29 3 (layC pages stack types nc nr ns data):=by
 obtain ⟨h1,h2,h3,h4,h5,h6,h7,h8⟩:=h
 obtain ⟨p,rfl⟩:=Int.eq_ofNat_of_zero_le h1
 obtain ⟨s,rfl⟩:=Int.eq_ofNat_of_zero_le h3
 have hs:=stack_ns (s:=s) (ns:=ns) (by omega) h7
 have q1:=r256_le (4 * nc)
 have q2:=r256_le data.length
 have m1:=r256_mod (4 * nc)
 have m2:=r256_mod data.length
 have m3 : s * ns % 256 = 0:=by rw [Nat.mul_mod,show s % 256 = 0 by omega]; simp
 have e1 : IntKind.u32.wrap ((4 : Int) * IntKind.u32.wrap (nc : Int)) = ((4 * nc : Nat) : Int):=by rw [IntKind.wrap_u32,IntKind.wrap_u32]; omega
 have e2:=u32_nat data.length (by omega)
 have e3 : IntKind.i64.wrap ((s : Int) * (ns : Int)) = ((s * ns : Nat) : Int):=by rw [Int.ofNat_mul_ofNat,wrap_i64 (by omega) (by omega)]
 have e4 : IntKind.u32.wrap (IntKind.i64.wrap ((p : Int) * (256 : Int))) = ((p * 256 : Nat) : Int):=by rw [wrap_i64 (by omega) (by omega),IntKind.wrap_u32]; omega
 have hd:=rlayout_big (p : Int) (s : Int) types nc nr ns data
 have hk:=rlayout_ok (p : Int) (s : Int) types nc nr ns data
 simp only [rr, tt, e1,Int.toNat_natCast,lenT_eq,e2,ralg256' _ m1 (by omega),u32_add (r256 (4 * nc)) (r256 data.length) (by omega),e3,u32_nat (s * ns) (by omega),u32_add (r256 (4 * nc) + r256 data.length) (s * ns) (by omega),e4] at hd hk
 cases hb : layBig (p : Int) (s : Int) nc ns data.length
 ·have hb' : r256 (4 * nc) + r256 data.length + s * ns + 256 ≤ p * 256:=by
   unfold layBig layFrom at hb; simp only [rr, tt, Int.toNat_natCast,decide_eq_false_iff_not] at hb; omega
  have e5 : IntKind.u32.wrap (((p * 256 : Nat) : Int) - ((r256 (4 * nc) + r256 data.length + s * ns : Nat) : Int)) = ((p * 256 - (r256 (4 * nc) + r256 data.length + s * ns) : Nat) : Int):=by rw [IntKind.wrap_u32]; omega
  rw [e5] at hk
  refine layC_any (T:=[(0,false)]) hk ?_ ?_
  ·unfold layR layA
   rw [hb]
   rfl
  ·refine ⟨⟨⟨trivial,⟨by omega,by omega⟩,⟨trivial,trivial⟩,trivial,trivial⟩,⟨by omega,by omega⟩,⟨trivial,trivial⟩,trivial,trivial⟩,?_⟩
   rw [IntKind.wrap_u32]
   simp only [rr, tt, decide_eq_false_iff_not]; omega
 ·have hb' : ¬ (r256 (4 * nc) + r256 data.length + s * ns + 256 ≤ p * 256):=by
   unfold layBig layFrom at hb; simp only [rr, tt, Int.toNat_natCast,decide_eq_true_eq] at hb; omega
  refine layC_any (T:=[(0,true)]) hd ?_ ?_
  ·unfold layR layA
   rw [hb]
   rfl
  ·refine ⟨⟨⟨trivial,⟨by omega,by omega⟩,⟨trivial,trivial⟩,trivial,trivial⟩,⟨by omega,by omega⟩,⟨trivial,trivial⟩,trivial,trivial⟩,?_⟩
   rw [IntKind.wrap_u32]
   simp only [rr, tt, decide_eq_true_eq]; omega
def selLay : SelC:=fun f args _ =>
 match args with
 | [.agg ⟨[.int _ pages,.int _ stack,.int _ types,.slice (some a) nc _,.string ⟨⟨data⟩⟩,.slice (some b) nr _,.slice (some c) ns _]⟩] =>
  bif Nat.beq f 26 || Nat.beq f 29 then some (layC pages stack types nc nr ns data,[a.block,b.block,c.block],layOk pages stack nc ns data.length) else none
 | _ => none
theorem selLay_ok : SelOk Try.prog 3 selLay:=by
 intro f args s c ρ q h hq
 unfold selLay at h
 split at h
 ·obtain ⟨h2,h⟩:=bif_some h
  cases h
  simp only [rr, tt, Bool.or_eq_true] at h2
  rcases h2 with h2 | h2
  ·have h2:=Nat.eq_of_beq_eq_true h2
   subst h2
   exact lay_prog _ _ _ _ _ _ _ hq
  ·have h2:=Nat.eq_of_beq_eq_true h2
   subst h2
   exact lay_ref _ _ _ _ _ _ _ hq
 ·cases h
def selK : SelC:=selOr selLay selJ
theorem selK_ok : SelOk Try.prog 3 selK:=selOr_ok selLay_ok selJ_ok
end Go.Proofs.Ytdljpnebpoaeiaa
namespace Go.Proofs.Ytdljpnebpoaeiaa
open Go.RowKit
open Sy
def layW (a b c d e f g h : Int) : Value:=.agg ⟨[.int .u32 a,.int .u32 b,.int .u32 c,.int .u32 d,.int .u32 e,.int .u32 f,.int .u32 g,.int .u32 h]⟩
def relW (at_ : Int) (code : Bool) (off size perms typ : Int) : Value:=.agg ⟨[.int .u32 at_,.bool code,.int .u32 off,.int .u32 size,.int .u16 perms,.int .u16 typ]⟩
theorem right_dn (pages stack types : Int) (nc nr ns : Nat) (data : List UInt8) (a b c d e f g h x off size perms typ behind : Int) : evF Try.prog (baseC 3 selK) noLoop 100 10 27 [imgV pages stack types nc nr ns data,layW a b c d e f g h,relW x false off size perms typ,.int .u32 behind] ⟨67,[],[],0,[(1,true)],0,True⟩ = some (Value.bool false,{ n:=72,h:=[],lo:=[],esc:=0,T:=[],k:=2,O:=(True∧(tt∧6 < 9000000000000000000)∧(rr (Value.slice (some ⟨71,0,none⟩) 6 6)∧True)∧((tt∧tt∧tt∧tt∧tt∧True∧rr [Value.bool (x.tmod (16:Int) != (0:Int)),.bool (decide (x < behind)),.bool (decide (IntKind.u64.wrap (IntKind.u64.wrap x+(16:Int)) > IntKind.u64.wrap (↑(lenT data)))),.bool (decide (IntKind.u64.wrap (IntKind.u64.wrap off+IntKind.u64.wrap size) > IntKind.u64.wrap (↑(lenT data)))),.bool (bits BinOp.andNot IntKind.u16 perms (155:Int) != (0:Int)),.bool (decide (IntKind.i64.wrap typ > types))])∧True)∧True)∧(!!(x.tmod (16:Int) != (0:Int) || (decide (x < behind) || (decide (IntKind.u64.wrap (IntKind.u64.wrap x+(16:Int)) > IntKind.u64.wrap (↑(lenT data))) || (decide (IntKind.u64.wrap (IntKind.u64.wrap off+IntKind.u64.wrap size) > IntKind.u64.wrap (↑(lenT data))) || (bits BinOp.andNot IntKind.u16 perms (155:Int) != (0:Int) || (decide (IntKind.i64.wrap typ > types) || false))))))) = true : St }):=by kernel_rfl
theorem right_dy (pages stack types : Int) (nc nr ns : Nat) (data : List UInt8) (a b c d e f g h x off size perms typ behind : Int) : evF Try.prog (baseC 3 selK) noLoop 100 10 27 [imgV pages stack types nc nr ns data,layW a b c d e f g h,relW x false off size perms typ,.int .u32 behind] ⟨67,[],[],0,[(1,false)],0,True⟩ = some (Value.bool (encX (IntKind.u32.wrap (c+off)).toNat (IntKind.u64.wrap (IntKind.u64.wrap (IntKind.u32.wrap (c+off))+IntKind.u64.wrap size)).toNat),{ n:=72,h:=[],lo:=[],esc:=0,T:=[],k:=2,O:=((True∧(tt∧6 < 9000000000000000000)∧(rr (Value.slice (some ⟨71,0,none⟩) 6 6)∧True)∧((tt∧tt∧tt∧tt∧tt∧True∧rr [Value.bool (x.tmod (16:Int) != (0:Int)),.bool (decide (x < behind)),.bool (decide (IntKind.u64.wrap (IntKind.u64.wrap x+(16:Int)) > IntKind.u64.wrap (↑(lenT data)))),.bool (decide (IntKind.u64.wrap (IntKind.u64.wrap off+IntKind.u64.wrap size) > IntKind.u64.wrap (↑(lenT data)))),.bool (bits BinOp.andNot IntKind.u16 perms (155:Int) != (0:Int)),.bool (decide (IntKind.i64.wrap typ > types))])∧True)∧True)∧(!!(x.tmod (16:Int) != (0:Int) || (decide (x < behind) || (decide (IntKind.u64.wrap (IntKind.u64.wrap x+(16:Int)) > IntKind.u64.wrap (↑(lenT data))) || (decide (IntKind.u64.wrap (IntKind.u64.wrap off+IntKind.u64.wrap size) > IntKind.u64.wrap (↑(lenT data))) || (bits BinOp.andNot IntKind.u16 perms (155:Int) != (0:Int) || (decide (IntKind.i64.wrap typ > types) || false))))))) = false)∧(((0:Int) ≤ IntKind.u32.wrap (c+off)∧IntKind.u32.wrap (c+off) < (4294967296:Int))∧(0:Int) ≤ IntKind.u64.wrap (IntKind.u64.wrap (IntKind.u32.wrap (c+off))+IntKind.u64.wrap size)∧IntKind.u64.wrap (IntKind.u64.wrap (IntKind.u32.wrap (c+off))+IntKind.u64.wrap size) < (18446744073709551616:Int))∧(rr (Value.int .u32 (IntKind.u32.wrap (c+off)))∧rr (Value.int .u64 (IntKind.u64.wrap (IntKind.u64.wrap (IntKind.u32.wrap (c+off))+IntKind.u64.wrap size)))∧True)∧True∧True : St }):=by kernel_rfl
theorem right_cn (pages stack types : Int) (nc nr ns : Nat) (data : List UInt8) (a b c d e f g h x off size perms typ behind : Int) : evF Try.prog (baseC 3 selK) noLoop 100 10 27 [imgV pages stack types nc nr ns data,layW a b c d e f g h,relW x true off size perms typ,.int .u32 behind] ⟨67,[],[],0,[(1,true)],0,True⟩ = some (Value.bool false,{ n:=72,h:=[],lo:=[],esc:=0,T:=[],k:=2,O:=(True∧(tt∧6 < 9000000000000000000)∧(rr (Value.slice (some ⟨71,0,none⟩) 6 6)∧True)∧((tt∧tt∧tt∧tt∧tt∧True∧rr [Value.bool (x.tmod (16:Int) != (0:Int)),.bool (decide (x < behind)),.bool (decide (IntKind.u64.wrap (IntKind.u64.wrap x+(16:Int)) > IntKind.u64.wrap (↑(lenT data)))),.bool (decide (IntKind.u64.wrap (IntKind.u64.wrap off+IntKind.u64.wrap size) > IntKind.u64.wrap ((4:Int) * IntKind.u64.wrap (↑nc)))),.bool (bits BinOp.andNot IntKind.u16 perms (133:Int) != (0:Int)),.bool (decide (IntKind.i64.wrap typ > types))])∧True)∧True)∧(!!(x.tmod (16:Int) != (0:Int) || (decide (x < behind) || (decide (IntKind.u64.wrap (IntKind.u64.wrap x+(16:Int)) > IntKind.u64.wrap (↑(lenT data))) || (decide (IntKind.u64.wrap (IntKind.u64.wrap off+IntKind.u64.wrap size) > IntKind.u64.wrap ((4:Int) * IntKind.u64.wrap (↑nc))) || (bits BinOp.andNot IntKind.u16 perms (133:Int) != (0:Int) || (decide (IntKind.i64.wrap typ > types) || false))))))) = true : St }):=by kernel_rfl
theorem right_cy (pages stack types : Int) (nc nr ns : Nat) (data : List UInt8) (a b c d e f g h x off size perms typ behind : Int) : evF Try.prog (baseC 3 selK) noLoop 100 10 27 [imgV pages stack types nc nr ns data,layW a b c d e f g h,relW x true off size perms typ,.int .u32 behind] ⟨67,[],[],0,[(1,false)],0,True⟩ = some (Value.bool (encX (IntKind.u32.wrap (a+off)).toNat (IntKind.u64.wrap (IntKind.u64.wrap (IntKind.u32.wrap (a+off))+IntKind.u64.wrap size)).toNat),{ n:=72,h:=[],lo:=[],esc:=0,T:=[],k:=2,O:=((True∧(tt∧6 < 9000000000000000000)∧(rr (Value.slice (some ⟨71,0,none⟩) 6 6)∧True)∧((tt∧tt∧tt∧tt∧tt∧True∧rr [Value.bool (x.tmod (16:Int) != (0:Int)),.bool (decide (x < behind)),.bool (decide (IntKind.u64.wrap (IntKind.u64.wrap x+(16:Int)) > IntKind.u64.wrap (↑(lenT data)))),.bool (decide (IntKind.u64.wrap (IntKind.u64.wrap off+IntKind.u64.wrap size) > IntKind.u64.wrap ((4:Int) * IntKind.u64.wrap (↑nc)))),.bool (bits BinOp.andNot IntKind.u16 perms (133:Int) != (0:Int)),.bool (decide (IntKind.i64.wrap typ > types))])∧True)∧True)∧(!!(x.tmod (16:Int) != (0:Int) || (decide (x < behind) || (decide (IntKind.u64.wrap (IntKind.u64.wrap x+(16:Int)) > IntKind.u64.wrap (↑(lenT data))) || (decide (IntKind.u64.wrap (IntKind.u64.wrap off+IntKind.u64.wrap size) > IntKind.u64.wrap ((4:Int) * IntKind.u64.wrap (↑nc))) || (bits BinOp.andNot IntKind.u16 perms (133:Int) != (0:Int) || (decide (IntKind.i64.wrap typ > types) || false))))))) = false)∧(((0:Int) ≤ IntKind.u32.wrap (a+off)∧IntKind.u32.wrap (a+off) < (4294967296:Int))∧(0:Int) ≤ IntKind.u64.wrap (IntKind.u64.wrap (IntKind.u32.wrap (a+off))+IntKind.u64.wrap size)∧IntKind.u64.wrap (IntKind.u64.wrap (IntKind.u32.wrap (a+off))+IntKind.u64.wrap size) < (18446744073709551616:Int))∧(rr (Value.int .u32 (IntKind.u32.wrap (a+off)))∧rr (Value.int .u64 (IntKind.u64.wrap (IntKind.u64.wrap (IntKind.u32.wrap (a+off))+IntKind.u64.wrap size)))∧True)∧True∧True : St }):=by kernel_rfl
def whole (nc len : Nat) (code : Bool) : Nat:=bif code then 4 * nc else len
def allowed (code : Bool) : Int:=bif code then 133 else 155
def relBad (types : Int) (nc len : Nat) (r : Rl) (behind : Nat) : Bool :=
 decide (r.at_ % 16 ≠ 0) || (decide (r.at_ < behind) || (decide (r.at_ + 16 > len) || (decide (r.off + r.size > whole nc len r.code) || (bits .andNot .u16 (r.perms : Int) (allowed r.code) != 0 || decide ((r.typ : Int) > types)))))
def relRight (types : Int) (nc len a c : Nat) (r : Rl) (behind : Nat) : Bool:=!relBad types nc len r behind && encX ((bif r.code then a else c) + r.off) ((bif r.code then a else c) + r.off + r.size)
structure RlOk (r : Rl) : Prop where
 at_ : r.at_ < 4294967296
 off : r.off < 4294967296
 size : r.size < 4294967296
 perms : r.perms < 65536
 typ : r.typ < 65536
def relV (r : Rl) : Value:=relW r.at_ r.code r.off r.size r.perms r.typ
def rightC (pages stack types : Int) (nc nr ns : Nat) (data : List UInt8) (a : Nat) (b : Int) (c : Nat) (d e f g h : Int) (r : Rl) (behind : Nat) : Con :=
 ⟨[imgV pages stack types nc nr ns data,layW a b c d e f g h,relV r,.int .u32 (behind : Int)],67,[],[],.bool (relRight types nc data.length a c r behind),67,[],[]⟩
theorem right_or (types : Int) (nc len : Nat) (code : Bool) (at_ off size perms typ w : Nat) (pm : Int) (behind : Nat) (hr : RlOk ⟨at_,code,off,size,perms,typ⟩) (hn : nc ≤ 4096) (hl : len ≤ 16384) (hw : w = whole nc len code) (hp : pm = allowed code) :
  ((at_ : Int).tmod 16 != 0 || (decide ((at_ : Int) < (behind : Int)) || (decide (IntKind.u64.wrap (IntKind.u64.wrap (at_ : Int) + 16) > IntKind.u64.wrap (len : Int)) || (decide (IntKind.u64.wrap (IntKind.u64.wrap (off : Int) + IntKind.u64.wrap (size : Int)) > IntKind.u64.wrap (w : Int)) || (bits BinOp.andNot IntKind.u16 (perms : Int) pm != 0 || (decide (IntKind.i64.wrap (typ : Int) > types) || false)))))) = relBad types nc len ⟨at_,code,off,size,perms,typ⟩ behind:=by
 subst hw hp
 obtain ⟨h1,h2,h3,h4,h5⟩:=hr
 simp only [] at h1 h2 h3 h4 h5
 have hw : whole nc len code ≤ 16384:=by unfold whole; cases code <;> simp <;> omega
 unfold relBad
 rw [Bool.or_false]
 congr 1
 ·rw [show (16 : Int) = ((16 : Nat) : Int) from rfl,← Int.ofNat_tmod]
  rw [Bool.eq_iff_iff]; simp only [rr, tt, bne_iff_ne,ne_eq,decide_eq_true_eq]; omega
 congr 1
 ·rw [Bool.eq_iff_iff]; simp only [rr, tt, decide_eq_true_eq]; omega
 congr 1
 ·rw [Bool.eq_iff_iff,IntKind.wrap_u64,IntKind.wrap_u64,IntKind.wrap_u64]; simp only [rr, tt, decide_eq_true_eq]; omega
 congr 1
 ·rw [Bool.eq_iff_iff,IntKind.wrap_u64,IntKind.wrap_u64,IntKind.wrap_u64,IntKind.wrap_u64]; simp only [rr, tt, decide_eq_true_eq]; omega
 congr 1
 ·rw [wrap_i64 (by omega) (by omega)]
theorem exact_in (a : Nat) (r : Rl) (ha : a ≤ 100000) (ho : r.off + r.size ≤ 16384) : encX (IntKind.u32.wrap ((a : Int) + (r.off : Int))).toNat (IntKind.u64.wrap (IntKind.u64.wrap (IntKind.u32.wrap ((a : Int) + (r.off : Int))) + IntKind.u64.wrap (r.size : Int))).toNat = encX (a + r.off) (a + r.off + r.size):=by
 have e1 : IntKind.u32.wrap ((a : Int) + (r.off : Int)) = ((a + r.off : Nat) : Int):=by rw [IntKind.wrap_u32]; omega
 have e2 : IntKind.u64.wrap (IntKind.u64.wrap ((a + r.off : Nat) : Int) + IntKind.u64.wrap (r.size : Int)) = ((a + r.off + r.size : Nat) : Int):=by rw [IntKind.wrap_u64,IntKind.wrap_u64,IntKind.wrap_u64]; omega
 rw [e1,e2]; rfl
def rightOk (nc len : Nat) (a c : Nat) (r : Rl) : Prop:=RlOk r ∧ nc ≤ 4096 ∧ len ≤ 16384 ∧ a ≤ 100000 ∧ c ≤ 100000
theorem flat_any {f : FuncId} {args : List Value} {T : List (Nat × Bool)} {s' : St} {v v' : Value} (h : evF Try.prog (baseC 3 selK) noLoop 100 10 f args ⟨67,[],[],0,T,0,True⟩ = some (v,s')) (ha : args.all (okV (fun l => Nat.blt l 67) 3) = true) (hv : v = v') (hO : s'.O) (hf : flat2 v' = true) (hu : isU v' = false) : ConOk Try.prog f 3 ⟨args,67,[],[],v',67,[],[]⟩:=by
 subst hv
 exact conOk_flat (run_ok i_names (baseC_ok selK_ok) (noLoop_ok _) 10) (by decide) ha h hO hf hu
theorem right_prog (pages stack types : Int) (nc nr ns : Nat) (data : List UInt8) (a : Nat) (b : Int) (c : Nat) (d e f g h : Int) (r : Rl) (behind : Nat) (hq : rightOk nc data.length a c r) : ConOk Try.prog 27 3 (rightC pages stack types nc nr ns data a b c d e f g h r behind):=by
 obtain ⟨hr,hn,hl,ha,hc⟩:=hq
 have hb4 : IntKind.u64.wrap ((4 : Int) * IntKind.u64.wrap (nc : Int)) = IntKind.u64.wrap ((4 * nc : Nat) : Int):=by
  rw [IntKind.wrap_u64,IntKind.wrap_u64,IntKind.wrap_u64]; omega
 obtain ⟨at_,code,off,size,perms,typ⟩:=r
 have hall : ∀ x : Bool,(rightC pages stack types nc nr ns data a b c d e f g h ⟨at_,x,off,size,perms,typ⟩ behind).args.all (okV (fun l => Nat.blt l 67) 3) = true:=fun x => by kernel_rfl
 have hw : ∀ x,relBad types nc data.length ⟨at_,x,off,size,perms,typ⟩ behind = false → off + size ≤ 16384:=fun x hx => by
  unfold relBad at hx
  simp only [rr, tt, Bool.or_eq_false_iff,decide_eq_false_iff_not] at hx
  have h1:=hx.2.2.2.1
  have h2 : whole nc data.length x ≤ 16384:=by unfold whole; cases x <;> simp <;> omega
  omega
 have hO6 : (6 : Nat) < 9000000000000000000:=by omega
 cases code
 ·have hd:=right_dn pages stack types nc nr ns data a b c d e f g h at_ off size perms typ behind
  have hk:=right_dy pages stack types nc nr ns data a b c d e f g h at_ off size perms typ behind
  have ho:=right_or types nc data.length false at_ off size perms typ data.length 155 behind hr hn hl rfl rfl
  rw [lenT_eq,ho] at hd hk
  cases hb : relBad types nc data.length ⟨at_,false,off,size,perms,typ⟩ behind <;> rw [hb] at hd hk
  ·refine flat_any hk (hall false) ?_ ?_ rfl rfl
   ·have:=exact_in c ⟨at_,false,off,size,perms,typ⟩ hc (hw _ hb)
    simp only [] at this
    rw [this]; simp only [rr, tt, relRight,hb,Bool.not_false,Bool.true_and,cond_false]
   ·refine ⟨?_,?_⟩
    ·simp [hO6]
    ·simp only [rr, tt, IntKind.wrap_u64,IntKind.wrap_u32]
     refine ⟨⟨by omega,by omega⟩,?_,trivial,trivial⟩
     simp
  ·refine flat_any hd (hall false) ?_ ?_ rfl rfl
   ·simp only [rr, tt, relRight,hb,Bool.not_true,Bool.false_and]
   ·simp [hO6]
 ·have hd:=right_cn pages stack types nc nr ns data a b c d e f g h at_ off size perms typ behind
  have hk:=right_cy pages stack types nc nr ns data a b c d e f g h at_ off size perms typ behind
  have ho:=right_or types nc data.length true at_ off size perms typ (4 * nc) 133 behind hr hn hl rfl rfl
  rw [lenT_eq,hb4,ho] at hd hk
  cases hb : relBad types nc data.length ⟨at_,true,off,size,perms,typ⟩ behind <;> rw [hb] at hd hk
  ·refine flat_any hk (hall true) ?_ ?_ rfl rfl
   ·have:=exact_in a ⟨at_,true,off,size,perms,typ⟩ ha (hw _ hb)
    simp only [] at this
    rw [this]; simp only [rr, tt, relRight,hb,Bool.not_false,Bool.true_and,cond_true]
   ·refine ⟨?_,?_⟩
    ·simp [hO6]
    ·simp only [rr, tt, IntKind.wrap_u64,IntKind.wrap_u32]
     refine ⟨⟨by omega,by omega⟩,?_,trivial,trivial⟩
     simp
  ·refine flat_any hd (hall true) ?_ ?_ rfl rfl
   ·simp only [rr, tt, relRight,hb,Bool.not_true,Bool.false_and]
   ·simp [hO6]
end Go.Proofs.Ytdljpnebpoaeiaa
namespace Go.Proofs.Ytdljpnebpoaeiaa
open Go.RowKit
open Sy
def rl0 (rs : List Rl) (k : Nat) : Rl:=rs.getD k ⟨0,false,0,0,0,0⟩
theorem getD'_append (d : Value) : ∀ (a b : List Value) (i : Nat),getD' d (a ++ b) (a.length + i) = getD' d b i
 | [],b,i => by simp
 | x :: a,b,i => by
  have:=getD'_append d a b i
  rw [show (x :: a).length + i = (a.length + i) + 1 by simp; omega]
  exact this
theorem rels_cons (x : Rl) (rs : List Rl) : rels (x :: rs) = relC x ++ rels rs:=by simp [rels]
theorem rels_len (rs : List Rl) : (rels rs).length = rs.length * 6:=by
 induction rs with
 | nil => rfl
 | cons x rs ih => rw [rels_cons,List.length_append,ih]; simp [relC]; omega
theorem rels_get : ∀ (rs : List Rl) (k j : Nat),k < rs.length → j < 6 → getD' undef (rels rs) (k * 6 + j) = getD' undef (relC (rl0 rs k)) j
 | [],k,j,h,_ => by simp at h
 | x :: rs,0,j,_,hj => by
  rw [rels_cons]
  obtain rfl | rfl | rfl | rfl | rfl | rfl : j = 0 ∨ j = 1 ∨ j = 2 ∨ j = 3 ∨ j = 4 ∨ j = 5:=by omega
  all_goals rfl
 | x :: rs,k + 1,j,h,hj => by
  rw [rels_cons,show (k + 1) * 6 + j = (relC x).length + (k * 6 + j) by simp [relC]; omega,getD'_append]
  exact rels_get rs k j (by simp at h; omega) hj
theorem rels_0 {rs : List Rl} {k : Nat} (h : k < rs.length) : intOf' (getD' undef (rels rs) (k * 6)) = ((rl0 rs k).at_ : Int):=by
 have:=rels_get rs k 0 h (by omega); rw [Nat.add_zero] at this; rw [this]; rfl
theorem rels_1 {rs : List Rl} {k : Nat} (h : k < rs.length) : boolOf' (getD' undef (rels rs) (k * 6 + 1)) = (rl0 rs k).code:=by rw [rels_get rs k 1 h (by omega)]; rfl
theorem rels_2 {rs : List Rl} {k : Nat} (h : k < rs.length) : intOf' (getD' undef (rels rs) (k * 6 + 2)) = ((rl0 rs k).off : Int):=by rw [rels_get rs k 2 h (by omega)]; rfl
theorem rels_3 {rs : List Rl} {k : Nat} (h : k < rs.length) : intOf' (getD' undef (rels rs) (k * 6 + 3)) = ((rl0 rs k).size : Int):=by rw [rels_get rs k 3 h (by omega)]; rfl
theorem rels_4 {rs : List Rl} {k : Nat} (h : k < rs.length) : intOf' (getD' undef (rels rs) (k * 6 + 4)) = ((rl0 rs k).perms : Int):=by rw [rels_get rs k 4 h (by omega)]; rfl
theorem rels_5 {rs : List Rl} {k : Nat} (h : k < rs.length) : intOf' (getD' undef (rels rs) (k * 6 + 5)) = ((rl0 rs k).typ : Int):=by rw [rels_get rs k 5 h (by omega)]; rfl
theorem rels_has {rs : List Rl} (n : Nat) : hasN n (rels rs) = decide (n ≤ rs.length * 6):=by
 rw [Bool.eq_iff_iff,hasN_iff,rels_len]; simp
theorem rels_like {rs : List Rl} {k : Nat} (h : k < rs.length) (a c d e f : Int) (b : Bool) : isLikeL [.int .u32 a,.bool b,.int .u32 c,.int .u32 d,.int .u16 e,.int .u16 f] (rels rs) (k * 6) = true:=by
 have h0:=rels_get rs k 0 h (by omega)
 rw [Nat.add_zero] at h0
 simp only [rr, tt, isLikeL,Nat.add_assoc,Nat.reduceAdd,h0,rels_get rs k 1 h (by omega),rels_get rs k 2 h (by omega),rels_get rs k 3 h (by omega),rels_get rs k 4 h (by omega),rels_get rs k 5 h (by omega)]
 rfl
theorem rels_flat (rs : List Rl) : ∀ v ∈ rels rs,flat0 v = true:=by
 intro v hv
 unfold rels at hv
 obtain ⟨x,_,hx⟩:=List.mem_flatMap.1 hv
 simp only [rr, tt, relC,List.mem_cons,List.not_mem_nil,or_false] at hx
 rcases hx with rfl | rfl | rfl | rfl | rfl | rfl <;> rfl
end Go.Proofs.Ytdljpnebpoaeiaa
namespace Go.Proofs.Ytdljpnebpoaeiaa
open Go.RowKit
open Sy
def behindN (rs : List Rl) (k : Nat) : Nat:=match k with | 0 => 0 | k + 1 => (rl0 rs k).at_ + 16
end Go.Proofs.Ytdljpnebpoaeiaa
namespace Go.Proofs.Ytdljpnebpoaeiaa
open Go.RowKit
open Sy
def selRight : SelC:=fun f args _ =>
 match args with
 | [.agg ⟨[.int _ pages,.int _ stack,.int _ types,.slice (some i) nc _,.string ⟨⟨data⟩⟩,.slice (some j) nr _,.slice (some k) ns _]⟩,.agg ⟨[.int _ a,.int _ b,.int _ c,.int _ d,.int _ e,.int _ g,.int _ h,.int _ m]⟩,.agg ⟨[.int _ x,.bool code,.int _ off,.int _ size,.int _ perms,.int _ typ]⟩,.int _ behind] =>
  bif Nat.beq f 27 then some (rightC pages stack types nc nr ns data a.toNat b c.toNat d e g h m ⟨x.toNat,code,off.toNat,size.toNat,perms.toNat,typ.toNat⟩ behind.toNat,[i.block,j.block,k.block],rightOk nc data.length a.toNat c.toNat ⟨x.toNat,code,off.toNat,size.toNat,perms.toNat,typ.toNat⟩) else none
 | _ => none
theorem selRight_ok : SelOk Try.prog 3 selRight:=by
 intro f args s c ρ q h hq
 unfold selRight at h
 split at h
 ·obtain ⟨h2,h⟩:=bif_some h
  have h2:=Nat.eq_of_beq_eq_true h2
  subst h2
  cases h
  exact right_prog _ _ _ _ _ _ _ _ _ _ _ _ _ _ _ _ _ hq
 ·cases h
def selL : SelC:=selOr selRight selK
theorem selL_ok : SelOk Try.prog 3 selL:=selOr_ok selRight_ok selK_ok
end Go.Proofs.Ytdljpnebpoaeiaa
namespace Go.Proofs.Ytdljpnebpoaeiaa
open Go.RowKit
open Sy
theorem st_a (pages : Int) (stack : Int) (types : Int) (nc : Nat) (nr : Nat) (data : List UInt8) (starts : List Nat) (k : Nat) : evC Try.prog (evF Try.prog noBase noLoop 100 3) (noLoop 50) 19 100 (loopOf Try.prog 50 0) (Sf.frT 19 (stI pages stack types nc nr data starts k) [(0,true),(1,true)]) = some (Exit.ret,{ e:=[[Value.slice (some ⟨66,0,none⟩) starts.length 9223372036854775874,.func (Fn.func 25) { toList:=[] } { toList:=[Value.pointer (some ⟨67,0,none⟩)] },unk,unk,.int .i64 (↑k),.int .i64 (↑k),unk,.int .i64 (↑starts.length),.int .i64 (↑k),.bool (decide ((↑k : Int) < (↑starts.length : Int))),.int .i64 (↑k),.func (Fn.func 25) { toList:=[] } { toList:=[Value.pointer (some ⟨67,0,none⟩)] },.slice (some ⟨66,0,none⟩) starts.length 9223372036854775874,.int .i64 (↑k),.pointer (some { block:=66,off:=0 + (↑k : Int).toNat * 1 }),.int .u32 (intOf' (getD' undef (u32s starts) (0 + (↑k : Int).toNat * 1)))],[Value.bool (decide (IntKind.i64.wrap (intOf' (getD' undef (u32s starts) (0 + (↑k : Int).toNat * 1))) ≥ (↑nc : Int))),.int .i64 (↑k),unk,unk,unk,unk,unk,unk,unk,unk,unk,unk,unk,unk,unk,unk]],s:={ n:=71,h:=[(66,⟨false,some (0,0),u32s starts,none⟩),(67,⟨false,none,[Value.int .i64 pages,.int .i64 stack,.int .i64 types,.slice (some ⟨64,0,none⟩) nc 9223372036854775872,.string ⟨⟨data⟩⟩,.slice (some ⟨65,0,none⟩) nr 9223372036854775873,.slice (some ⟨66,0,none⟩) starts.length 9223372036854775874],none⟩)],lo:=[],esc:=0,T:=[],k:=2,O:=(bif hasN (0 + (↑k : Int).toNat * 1 + 1) (u32s starts) && isLikeL [Value.int .u32 0] (u32s starts) (0 + (↑k : Int).toNat * 1) then bif decide ((0 : Int) ≤ (↑k : Int)) && decide ((↑k : Int) < (↑starts.length : Int)) then True ∧ decide ((↑k : Int) < (↑starts.length : Int)) = true else False else False) ∧ decide (IntKind.i64.wrap (intOf' (getD' undef (u32s starts) (0 + (↑k : Int).toNat * 1))) ≥ (↑nc : Int)) = true : St } : Fr }):=by kernel_rfl
theorem st_b (pages : Int) (stack : Int) (types : Int) (nc : Nat) (nr : Nat) (data : List UInt8) (starts : List Nat) (k : Nat) : evC Try.prog (evF Try.prog noBase noLoop 100 3) (noLoop 50) 19 100 (loopOf Try.prog 50 0) (Sf.frT 19 (stI pages stack types nc nr data starts k) [(0,true),(1,false)]) = some (Exit.normal,{ e:=[[Value.slice (some ⟨66,0,none⟩) starts.length 9223372036854775874,.func (Fn.func 25) { toList:=[] } { toList:=[Value.pointer (some ⟨67,0,none⟩)] },unk,unk,unk,.int .i64 (↑k),unk,.int .i64 (↑starts.length),.int .i64 (IntKind.i64.wrap ((↑k : Int) + (1 : Int))),.bool (decide ((↑k : Int) < (↑starts.length : Int))),.int .i64 (↑k),.func (Fn.func 25) { toList:=[] } { toList:=[Value.pointer (some ⟨67,0,none⟩)] },.slice (some ⟨66,0,none⟩) starts.length 9223372036854775874,.int .i64 (↑k),.pointer (some { block:=66,off:=0 + (↑k : Int).toNat * 1 }),.int .u32 (intOf' (getD' undef (u32s starts) (0 + (↑k : Int).toNat * 1)))],[Value.bool (decide (IntKind.i64.wrap (intOf' (getD' undef (u32s starts) (0 + (↑k : Int).toNat * 1))) ≥ (↑nc : Int))),unk,.int .i64 (IntKind.i64.wrap ((↑k : Int) + (1 : Int))),unk,unk,unk,unk,unk,unk,unk,unk,unk,unk,unk,unk,unk]],s:={ n:=71,h:=[(66,⟨false,some (0,0),u32s starts,none⟩),(67,⟨false,none,[Value.int .i64 pages,.int .i64 stack,.int .i64 types,.slice (some ⟨64,0,none⟩) nc 9223372036854775872,.string ⟨⟨data⟩⟩,.slice (some ⟨65,0,none⟩) nr 9223372036854775873,.slice (some ⟨66,0,none⟩) starts.length 9223372036854775874],none⟩)],lo:=[],esc:=0,T:=[],k:=2,O:=(bif hasN (0 + (↑k : Int).toNat * 1 + 1) (u32s starts) && isLikeL [Value.int .u32 0] (u32s starts) (0 + (↑k : Int).toNat * 1) then bif decide ((0 : Int) ≤ (↑k : Int)) && decide ((↑k : Int) < (↑starts.length : Int)) then True ∧ decide ((↑k : Int) < (↑starts.length : Int)) = true else False else False) ∧ decide (IntKind.i64.wrap (intOf' (getD' undef (u32s starts) (0 + (↑k : Int).toNat * 1))) ≥ (↑nc : Int)) = false : St } : Fr }):=by kernel_rfl
theorem st_c (pages : Int) (stack : Int) (types : Int) (nc : Nat) (nr : Nat) (data : List UInt8) (starts : List Nat) (k : Nat) : evC Try.prog (evF Try.prog noBase noLoop 100 3) (noLoop 50) 19 100 (loopOf Try.prog 50 0) (Sf.frT 19 (stI pages stack types nc nr data starts k) [(0,false)]) = some (Exit.exit 0,{ e:=[[Value.slice (some ⟨66,0,none⟩) starts.length 9223372036854775874,.func (Fn.func 25) { toList:=[] } { toList:=[Value.pointer (some ⟨67,0,none⟩)] },unk,unk,unk,unk,unk,.int .i64 (↑starts.length),.int .i64 (↑k),.bool (decide ((↑k : Int) < (↑starts.length : Int))),unk,unk,unk,unk,unk,unk],[unk,unk,unk,unk,unk,unk,unk,unk,unk,unk,unk,unk,unk,unk,unk,unk]],s:={ n:=71,h:=[(66,⟨false,some (0,0),u32s starts,none⟩),(67,⟨false,none,[Value.int .i64 pages,.int .i64 stack,.int .i64 types,.slice (some ⟨64,0,none⟩) nc 9223372036854775872,.string ⟨⟨data⟩⟩,.slice (some ⟨65,0,none⟩) nr 9223372036854775873,.slice (some ⟨66,0,none⟩) starts.length 9223372036854775874],none⟩)],lo:=[],esc:=0,T:=[],k:=1,O:=True ∧ decide ((↑k : Int) < (↑starts.length : Int)) = false : St } : Fr }):=by kernel_rfl
theorem ng71 : NG ≤ 71:=by decide
theorem u32_i64 {x : Nat} (h : x < 4294967296) : IntKind.i64.wrap (x : Int) = x:=wrap_i64 (by omega) (by omega)
theorem stI_wf (pages stack types : Int) (nc nr : Nat) (data : List UInt8) (starts : List Nat) (k : Nat) : (stI pages stack types nc nr data starts k).Wf :=
 ⟨ng71,Sf.Ok.mk' 3 ⟨⟨rfl,rfl,flat_bnd (u32s_flat starts)⟩,⟨rfl,rfl,fun v hv => okV_bnd 3 v (List.all_eq_true.1 (show (imgL pages stack types nc nr starts.length data).all (okV (fun l => Nat.blt l 71) 3) = true from by kernel_rfl) v hv)⟩,trivial⟩ rfl (fun x hx => by
  have : (stI pages stack types nc nr data starts k).e.all (fun x => okV (fun l => Nat.blt l 71) 3 x.2) = true:=by kernel_rfl
  exact List.all_eq_true.1 this x hx)⟩
theorem st_next (pages stack types : Int) (nc nr : Nat) (data : List UInt8) (starts : List Nat) (k : Nat) (e : Sf) (hl : starts.length < 9000000000000000000) (hx : starts.getD k 0 < 4294967296) (hk : k < starts.length) (hv : starts.getD k 0 < nc) (hn : e.n = 71) (he : e.Ok (keeps 71 71 id (fun l => Nat.blt l 71))) :
  ∃ g,evC Try.prog (evF Try.prog noBase noLoop 100 3) (noLoop 50) 19 100 (loopOf Try.prog 50 0) ((stI pages stack types nc nr data starts k).frT 19 [(0,true),(1,false)]) = some (.normal,g) ∧ g.s.O ∧
   Sf.Leads 3 (fun l => Nat.blt l 71) id (stI pages stack types nc nr data starts k) g (stI pages stack types nc nr data starts (k + 1)) e:=by
 refine ⟨_,st_b pages stack types nc nr data starts k,?_,?_⟩
 ·simp only [rr, tt, u32s_has,u32s_like,u32s_at,Int.toNat_natCast,Nat.zero_add,Nat.mul_one]
  rw [u32_i64 hx]
  exact ⟨bif_true (by simp; omega) (bif_true (by simp; omega) ⟨trivial,by simp; omega⟩),by simp only [rr, tt, decide_eq_false_iff_not]; omega⟩
 ·refine ⟨fun _ _ => rfl,⟨⟨rfl,flat_all (u32s_flat starts),rfl,rfl,rfl,trivial,(flat_map (u32s_flat starts)).symm⟩,⟨rfl,by kernel_rfl,rfl,rfl,rfl,trivial,by kernel_rfl⟩,trivial⟩,rfl,trivial,⟨⟨by kernel_rfl,by kernel_rfl⟩,⟨rfl,by kernel_rfl⟩,⟨rfl,by kernel_rfl⟩,⟨rfl,?_⟩,trivial⟩,Nat.le_refl _,fun l hl => blt_no hl,?_,?_⟩
  ·refine Eq.trans (b:=Value.int .i64 (IntKind.i64.wrap ((k : Int) + 1))) (by kernel_rfl) ?_
   rw [cast_succ_i64 k (by omega)]; rfl
  ·rw [hn]; exact he
  ·intro x _ _; exact .inl rfl
theorem stF_ok (j : Nat) : (stF j).Ok (keeps 71 71 id (fun l => Nat.blt l 71)):=Sf.Ok.mk' 3 trivial rfl (by simp [stF,okV,flat0])
theorem stN_ok : stN.Ok (keeps 71 71 id (fun l => Nat.blt l 71)):=Sf.Ok.mk' 3 trivial rfl (by simp [stN])
theorem st_found (pages stack types : Int) (nc nr : Nat) (data : List UInt8) (starts : List Nat) (j : Nat) (hl : starts.length < 9000000000000000000) (hx : ∀ x ∈ starts,x < 4294967296) (hj : j < starts.length) (hv : nc ≤ starts.getD j 0) (hn : ∀ i,i < j → starts.getD i 0 < nc) :
  ∀ x : { k : Nat // k ≤ j },LoopOk Try.prog 19 (loopOf Try.prog 50 0) ((stI pages stack types nc nr data starts x.1).fr 19) .ret ((stF j).fr 19):=by
 have hx' : ∀ i,i < starts.length → starts.getD i 0 < 4294967296:=fun i hi => by
  rw [List.getD_eq_getElem?_getD,List.getElem?_eq_getElem hi]; exact hx _ (List.getElem_mem hi)
 refine loop_ok (L:=100) (run_ok (L:=100) i_names (noBase_ok _) (noLoop_ok _) 3) (noLoop_any _ _ 50) (fun _ h => h) (X:={ k : Nat // k ≤ j }) (fun x => stI pages stack types nc nr data starts x.1) (fun _ => stF j) (fun _ => .ret) (fun x => j - x.1) (fun x => stI_wf pages stack types nc nr data starts x.1) ?_
 rintro ⟨k,hk⟩
 by_cases h : k = j
 ·subst h
  refine ⟨[(0,true),(1,true)],.ret,_,3,fun l => Nat.blt l 71,id,st_a pages stack types nc nr data starts k,?_,.inr ⟨by simp,rfl,?_⟩⟩
  ·simp only [rr, tt, u32s_has,u32s_like,u32s_at,Int.toNat_natCast,Nat.zero_add,Nat.mul_one]
   rw [u32_i64 (hx' k hj)]
   exact ⟨bif_true (by simp; omega) (bif_true (by simp; omega) ⟨trivial,by simp; omega⟩),by simp only [rr, tt, decide_eq_true_eq]; omega⟩
  ·exact ⟨fun _ _ => rfl,trivial,rfl,trivial,⟨⟨rfl,by kernel_rfl⟩,trivial⟩,Nat.le_refl _,fun l hl => blt_no hl,stF_ok k,fun x hx => by cases hx⟩
 ·obtain ⟨g,h1,h2,h3⟩:=st_next pages stack types nc nr data starts k (stF j) hl (hx' k (by omega)) (by omega) (hn k (by omega)) rfl (stF_ok j)
  exact ⟨_,.normal,g,3,_,_,h1,h2,.inl ⟨rfl,⟨k + 1,by omega⟩,by show j - (k + 1) < j - k; omega,rfl,rfl,h3⟩⟩
theorem st_none (pages stack types : Int) (nc nr : Nat) (data : List UInt8) (starts : List Nat) (hl : starts.length < 9000000000000000000) (hx : ∀ x ∈ starts,x < 4294967296) (hn : ∀ i,i < starts.length → starts.getD i 0 < nc) :
  ∀ x : { k : Nat // k ≤ starts.length },LoopOk Try.prog 19 (loopOf Try.prog 50 0) ((stI pages stack types nc nr data starts x.1).fr 19) (.exit 0) (stN.fr 19):=by
 have hx' : ∀ i,i < starts.length → starts.getD i 0 < 4294967296:=fun i hi => by
  rw [List.getD_eq_getElem?_getD,List.getElem?_eq_getElem hi]; exact hx _ (List.getElem_mem hi)
 refine loop_ok (L:=100) (run_ok (L:=100) i_names (noBase_ok _) (noLoop_ok _) 3) (noLoop_any _ _ 50) (fun _ h => h) (X:={ k : Nat // k ≤ starts.length }) (fun x => stI pages stack types nc nr data starts x.1) (fun _ => stN) (fun _ => .exit 0) (fun x => starts.length - x.1) (fun x => stI_wf pages stack types nc nr data starts x.1) ?_
 rintro ⟨k,hk⟩
 by_cases h : k < starts.length
 ·obtain ⟨g,h1,h2,h3⟩:=st_next pages stack types nc nr data starts k stN hl (hx' k h) h (hn k h) rfl stN_ok
  exact ⟨_,.normal,g,3,_,_,h1,h2,.inl ⟨rfl,⟨k + 1,by omega⟩,by show starts.length - (k + 1) < starts.length - k; omega,rfl,rfl,h3⟩⟩
 ·refine ⟨[(0,false)],.exit 0,_,3,fun l => Nat.blt l 71,id,st_c pages stack types nc nr data starts k,?_,.inr ⟨by simp,rfl,?_⟩⟩
  ·simp; omega
  ·exact ⟨fun _ _ => rfl,trivial,rfl,trivial,trivial,Nat.le_refl _,fun l hl => blt_no hl,stN_ok,fun x hx => by cases hx⟩
def stEntF (pages stack types : Int) (nc nr : Nat) (data : List UInt8) (starts : List Nat) (j : Nat) (hl : starts.length < 9000000000000000000) (hx : ∀ x ∈ starts,x < 4294967296) (hj : j < starts.length) (hv : nc ≤ starts.getD j 0) (hn : ∀ i,i < j → starts.getD i 0 < nc) : Ent Try.prog :=
 entC Try.prog 50 0 19 (stI pages stack types nc nr data starts 0) .ret (stF j) (by kernel_rfl) (by kernel_rfl) (st_found pages stack types nc nr data starts j hl hx hj hv hn ⟨0,Nat.zero_le _⟩)
def stEntN (pages stack types : Int) (nc nr : Nat) (data : List UInt8) (starts : List Nat) (hl : starts.length < 9000000000000000000) (hx : ∀ x ∈ starts,x < 4294967296) (hn : ∀ i,i < starts.length → starts.getD i 0 < nc) : Ent Try.prog :=
 entC Try.prog 50 0 19 (stI pages stack types nc nr data starts 0) (.exit 0) stN (by kernel_rfl) (by kernel_rfl) (st_none pages stack types nc nr data starts hl hx hn ⟨0,Nat.zero_le _⟩)
end Go.Proofs.Ytdljpnebpoaeiaa
namespace Go.Proofs.Ytdljpnebpoaeiaa
open Go.RowKit
open Sy
def zeros8 : List Value:=[.int .u32 0,.int .u32 0,.int .u32 0,.int .u32 0,.int .u32 0,.int .u32 0,.int .u32 0,.int .u32 0]
def layL (a b c d e f g h : Int) : List Value:=[.int .u32 a,.int .u32 b,.int .u32 c,.int .u32 d,.int .u32 e,.int .u32 f,.int .u32 g,.int .u32 h]
def relI (pages stack types : Int) (nc ns : Nat) (data : List UInt8) (rs : List Rl) (a b c d e f g h : Int) (behind k : Nat) : Sf :=
 ⟨72,[(1,.pointer (some ⟨67,0,none⟩)),(2,.pointer (some ⟨68,0,none⟩)),(4,.pointer (some ⟨71,0,none⟩)),(6,.int .u32 (behind : Nat)),(80,.slice (some ⟨65,0,none⟩) rs.length (big + 65)),(81,.int .i64 (rs.length : Nat)),(82,.int .i64 (k : Nat))],
  [(65,⟨false,some (0,0),rels rs,none⟩),(67,⟨false,none,imgL pages stack types nc rs.length ns data,none⟩),(68,⟨true,none,zeros8,none⟩),(71,⟨false,none,layL a b c d e f g h,none⟩)],[]⟩
def relF : Sf:=⟨72,[(2,.pointer (some ⟨68,0,none⟩)),(3,.int .i64 2)],[(68,⟨true,none,zeros8,none⟩)],[]⟩
def relE : Sf:=⟨72,[(2,.pointer (some ⟨68,0,none⟩)),(4,.pointer (some ⟨71,0,none⟩))],[(68,⟨true,none,zeros8,none⟩)],[]⟩
theorem lr_next (pages : Int) (stack : Int) (types : Int) (nc : Nat) (ns : Nat) (data : List UInt8) (rs : List Rl) (a : Int) (b : Int) (c : Int) (d : Int) (e : Int) (f : Int) (g : Int) (h : Int) (behind : Nat) (k : Nat) : evC Try.prog (evF Try.prog (baseC 3 selL) noLoop 100 3) (noLoop 10) 98 100 (loopOf Try.prog 10 0) (Sf.frT 98 (relI pages stack types nc ns data rs a b c d e f g h behind k) [(0,true),(1,false)]) = some (Exit.normal,{ e:=[[unk,.pointer (some ⟨67,0,none⟩),.pointer (some ⟨68,0,none⟩),unk,.pointer (some ⟨71,0,none⟩),unk,.int .u32 (IntKind.u32.wrap (intOf' (getD' undef (rels rs) (0 + (↑k : Int).toNat * 6)) + (16 : Int))),unk,.pointer (some ⟨72,0,none⟩),unk,unk,unk,unk,unk,unk,unk],[unk,unk,unk,unk,unk,unk,unk,unk,unk,unk,unk,unk,unk,unk,unk,unk],[unk,unk,unk,unk,unk,unk,unk,unk,unk,unk,unk,unk,unk,unk,unk,unk],[unk,unk,unk,unk,unk,unk,unk,unk,unk,unk,unk,unk,unk,unk,unk,unk],[unk,unk,unk,unk,unk,unk,unk,unk,unk,unk,unk,unk,unk,unk,unk,unk],[Value.slice (some ⟨65,0,none⟩) rs.length 9223372036854775873,.int .i64 (↑rs.length),.int .i64 (IntKind.i64.wrap ((↑k : Int) + (1 : Int))),.bool (decide ((↑k : Int) < (↑rs.length : Int))),.pointer (some { block:=65,off:=0 + (↑k : Int).toNat * 6 }),.agg ⟨[.int .u32 (intOf' (getD' undef (rels rs) (0 + (↑k : Int).toNat * 6))),.bool (boolOf' (getD' undef (rels rs) (0 + (↑k : Int).toNat * 6 + 1))),.int .u32 (intOf' (getD' undef (rels rs) (0 + (↑k : Int).toNat * 6 + 1 + 1))),.int .u32 (intOf' (getD' undef (rels rs) (0 + (↑k : Int).toNat * 6 + 1 + 1 + 1))),.int .u16 (intOf' (getD' undef (rels rs) (0 + (↑k : Int).toNat * 6 + 1 + 1 + 1 + 1))),.int .u16 (intOf' (getD' undef (rels rs) (0 + (↑k : Int).toNat * 6 + 1 + 1 + 1 + 1 + 1)))]⟩,.agg ⟨[.int .i64 pages,.int .i64 stack,.int .i64 types,.slice (some ⟨64,0,none⟩) nc 9223372036854775872,.string ⟨⟨data⟩⟩,.slice (some ⟨65,0,none⟩) rs.length 9223372036854775873,.slice (some ⟨66,0,none⟩) ns 9223372036854775874]⟩,.agg ⟨[.int .u32 a,.int .u32 b,.int .u32 c,.int .u32 d,.int .u32 e,.int .u32 f,.int .u32 g,.int .u32 h]⟩,.agg ⟨[.int .u32 (intOf' (getD' undef (rels rs) (0 + (↑k : Int).toNat * 6))),.bool (boolOf' (getD' undef (rels rs) (0 + (↑k : Int).toNat * 6 + 1))),.int .u32 (intOf' (getD' undef (rels rs) (0 + (↑k : Int).toNat * 6 + 1 + 1))),.int .u32 (intOf' (getD' undef (rels rs) (0 + (↑k : Int).toNat * 6 + 1 + 1 + 1))),.int .u16 (intOf' (getD' undef (rels rs) (0 + (↑k : Int).toNat * 6 + 1 + 1 + 1 + 1))),.int .u16 (intOf' (getD' undef (rels rs) (0 + (↑k : Int).toNat * 6 + 1 + 1 + 1 + 1 + 1)))]⟩,.int .u32 (↑behind),.bool (relRight types nc data.length a.toNat c.toNat { at_:=(intOf' (getD' undef (rels rs) (0 + (↑k : Int).toNat * 6))).toNat,code:=boolOf' (getD' undef (rels rs) (0 + (↑k : Int).toNat * 6 + 1)),off:=(intOf' (getD' undef (rels rs) (0 + (↑k : Int).toNat * 6 + 1 + 1))).toNat,size:=(intOf' (getD' undef (rels rs) (0 + (↑k : Int).toNat * 6 + 1 + 1 + 1))).toNat,perms:=(intOf' (getD' undef (rels rs) (0 + (↑k : Int).toNat * 6 + 1 + 1 + 1 + 1))).toNat,typ:=(intOf' (getD' undef (rels rs) (0 + (↑k : Int).toNat * 6 + 1 + 1 + 1 + 1 + 1))).toNat : Rl } (↑behind : Int).toNat),.bool !relRight types nc data.length a.toNat c.toNat { at_:=(intOf' (getD' undef (rels rs) (0 + (↑k : Int).toNat * 6))).toNat,code:=boolOf' (getD' undef (rels rs) (0 + (↑k : Int).toNat * 6 + 1)),off:=(intOf' (getD' undef (rels rs) (0 + (↑k : Int).toNat * 6 + 1 + 1))).toNat,size:=(intOf' (getD' undef (rels rs) (0 + (↑k : Int).toNat * 6 + 1 + 1 + 1))).toNat,perms:=(intOf' (getD' undef (rels rs) (0 + (↑k : Int).toNat * 6 + 1 + 1 + 1 + 1))).toNat,typ:=(intOf' (getD' undef (rels rs) (0 + (↑k : Int).toNat * 6 + 1 + 1 + 1 + 1 + 1))).toNat : Rl } (↑behind : Int).toNat,unk,.pointer (some ⟨72,0,none⟩),.int .u32 (intOf' (getD' undef (rels rs) (0 + (↑k : Int).toNat * 6))),.int .u32 (IntKind.u32.wrap (intOf' (getD' undef (rels rs) (0 + (↑k : Int).toNat * 6)) + (16 : Int)))],[Value.int .i64 (IntKind.i64.wrap ((↑k : Int) + (1 : Int))),unk,unk,unk,unk,unk,unk,unk,unk,unk,unk,unk,unk,unk,unk,unk]],s:={ n:=73,h:=[(72,⟨true,none,[Value.int .u32 (intOf' (getD' undef (rels rs) (0 + (↑k : Int).toNat * 6))),.bool (boolOf' (getD' undef (rels rs) (0 + (↑k : Int).toNat * 6 + 1))),.int .u32 (intOf' (getD' undef (rels rs) (0 + (↑k : Int).toNat * 6 + 1 + 1))),.int .u32 (intOf' (getD' undef (rels rs) (0 + (↑k : Int).toNat * 6 + 1 + 1 + 1))),.int .u16 (intOf' (getD' undef (rels rs) (0 + (↑k : Int).toNat * 6 + 1 + 1 + 1 + 1))),.int .u16 (intOf' (getD' undef (rels rs) (0 + (↑k : Int).toNat * 6 + 1 + 1 + 1 + 1 + 1)))],none⟩),(65,⟨false,some (0,0),rels rs,none⟩),(67,⟨false,none,[Value.int .i64 pages,.int .i64 stack,.int .i64 types,.slice (some ⟨64,0,none⟩) nc 9223372036854775872,.string ⟨⟨data⟩⟩,.slice (some ⟨65,0,none⟩) rs.length 9223372036854775873,.slice (some ⟨66,0,none⟩) ns 9223372036854775874],none⟩),(68,⟨true,none,[Value.int .u32 0,.int .u32 0,.int .u32 0,.int .u32 0,.int .u32 0,.int .u32 0,.int .u32 0,.int .u32 0],none⟩),(71,⟨false,none,[Value.int .u32 a,.int .u32 b,.int .u32 c,.int .u32 d,.int .u32 e,.int .u32 f,.int .u32 g,.int .u32 h],none⟩)],lo:=[],esc:=0,T:=[],k:=2,O:=((bif hasN (0 + (↑k : Int).toNat * 6 + 6) (rels rs) && isLikeL [Value.int .u32 0,.bool false,.int .u32 0,.int .u32 0,.int .u16 0,.int .u16 0] (rels rs) (0 + (↑k : Int).toNat * 6) then bif decide ((0 : Int) ≤ (↑k : Int)) && decide ((↑k : Int) < (↑rs.length : Int)) then True ∧ decide ((↑k : Int) < (↑rs.length : Int)) = true else False else False) ∧ rightOk nc data.length a.toNat c.toNat { at_:=(intOf' (getD' undef (rels rs) (0 + (↑k : Int).toNat * 6))).toNat,code:=boolOf' (getD' undef (rels rs) (0 + (↑k : Int).toNat * 6 + 1)),off:=(intOf' (getD' undef (rels rs) (0 + (↑k : Int).toNat * 6 + 1 + 1))).toNat,size:=(intOf' (getD' undef (rels rs) (0 + (↑k : Int).toNat * 6 + 1 + 1 + 1))).toNat,perms:=(intOf' (getD' undef (rels rs) (0 + (↑k : Int).toNat * 6 + 1 + 1 + 1 + 1))).toNat,typ:=(intOf' (getD' undef (rels rs) (0 + (↑k : Int).toNat * 6 + 1 + 1 + 1 + 1 + 1))).toNat : Rl } ∧ (rr (Value.agg ⟨[.int .i64 pages,.int .i64 stack,.int .i64 types,.slice (some ⟨64,0,none⟩) nc 9223372036854775872,.string ⟨⟨data⟩⟩,.slice (some ⟨65,0,none⟩) rs.length 9223372036854775873,.slice (some ⟨66,0,none⟩) ns 9223372036854775874]⟩) ∧ Value.agg ⟨[.int .u32 a,.int .u32 b,.int .u32 c,.int .u32 d,.int .u32 e,.int .u32 f,.int .u32 g,.int .u32 h]⟩ = Value.agg ⟨[.int .u32 (↑a.toNat),.int .u32 b,.int .u32 (↑c.toNat),.int .u32 d,.int .u32 e,.int .u32 f,.int .u32 g,.int .u32 h]⟩ ∧ Value.agg ⟨[.int .u32 (intOf' (getD' undef (rels rs) (0 + (↑k : Int).toNat * 6))),.bool (boolOf' (getD' undef (rels rs) (0 + (↑k : Int).toNat * 6 + 1))),.int .u32 (intOf' (getD' undef (rels rs) (0 + (↑k : Int).toNat * 6 + 1 + 1))),.int .u32 (intOf' (getD' undef (rels rs) (0 + (↑k : Int).toNat * 6 + 1 + 1 + 1))),.int .u16 (intOf' (getD' undef (rels rs) (0 + (↑k : Int).toNat * 6 + 1 + 1 + 1 + 1))),.int .u16 (intOf' (getD' undef (rels rs) (0 + (↑k : Int).toNat * 6 + 1 + 1 + 1 + 1 + 1)))]⟩ = Value.agg ⟨[.int .u32 (↑(intOf' (getD' undef (rels rs) (0 + (↑k : Int).toNat * 6))).toNat : Int),.bool (boolOf' (getD' undef (rels rs) (0 + (↑k : Int).toNat * 6 + 1))),.int .u32 (↑(intOf' (getD' undef (rels rs) (0 + (↑k : Int).toNat * 6 + 1 + 1))).toNat : Int),.int .u32 (↑(intOf' (getD' undef (rels rs) (0 + (↑k : Int).toNat * 6 + 1 + 1 + 1))).toNat : Int),.int .u16 (↑(intOf' (getD' undef (rels rs) (0 + (↑k : Int).toNat * 6 + 1 + 1 + 1 + 1))).toNat : Int),.int .u16 (↑(intOf' (getD' undef (rels rs) (0 + (↑k : Int).toNat * 6 + 1 + 1 + 1 + 1 + 1))).toNat : Int)]⟩ ∧ Value.int .u32 (↑behind) = Value.int .u32 (↑(↑behind : Int).toNat : Int) ∧ True) ∧ True ∧ True) ∧ (!relRight types nc data.length a.toNat c.toNat { at_:=(intOf' (getD' undef (rels rs) (0 + (↑k : Int).toNat * 6))).toNat,code:=boolOf' (getD' undef (rels rs) (0 + (↑k : Int).toNat * 6 + 1)),off:=(intOf' (getD' undef (rels rs) (0 + (↑k : Int).toNat * 6 + 1 + 1))).toNat,size:=(intOf' (getD' undef (rels rs) (0 + (↑k : Int).toNat * 6 + 1 + 1 + 1))).toNat,perms:=(intOf' (getD' undef (rels rs) (0 + (↑k : Int).toNat * 6 + 1 + 1 + 1 + 1))).toNat,typ:=(intOf' (getD' undef (rels rs) (0 + (↑k : Int).toNat * 6 + 1 + 1 + 1 + 1 + 1))).toNat : Rl } (↑behind : Int).toNat) = false : St } : Fr }):=by kernel_rfl
theorem lr_bad (pages : Int) (stack : Int) (types : Int) (nc : Nat) (ns : Nat) (data : List UInt8) (rs : List Rl) (a : Int) (b : Int) (c : Int) (d : Int) (e : Int) (f : Int) (g : Int) (h : Int) (behind : Nat) (k : Nat) : evC Try.prog (evF Try.prog (baseC 3 selL) noLoop 100 3) (noLoop 10) 98 100 (loopOf Try.prog 10 0) (Sf.frT 98 (relI pages stack types nc ns data rs a b c d e f g h behind k) [(0,true),(1,true)]) = some (Exit.ret,{ e:=[[unk,.pointer (some ⟨67,0,none⟩),.pointer (some ⟨68,0,none⟩),.int .i64 2,.pointer (some ⟨71,0,none⟩),unk,.int .u32 (↑behind),unk,.pointer (some ⟨72,0,none⟩),unk,unk,unk,unk,unk,unk,unk],[unk,unk,unk,unk,unk,unk,unk,unk,unk,unk,unk,unk,unk,unk,unk,unk],[unk,unk,unk,unk,unk,unk,unk,unk,unk,unk,unk,unk,unk,unk,unk,unk],[unk,unk,unk,unk,unk,unk,unk,unk,unk,unk,unk,unk,unk,unk,unk,unk],[unk,unk,unk,unk,unk,unk,unk,unk,unk,unk,unk,unk,unk,unk,unk,unk],[Value.slice (some ⟨65,0,none⟩) rs.length 9223372036854775873,.int .i64 (↑rs.length),.int .i64 (↑k),.bool (decide ((↑k : Int) < (↑rs.length : Int))),.pointer (some { block:=65,off:=0 + (↑k : Int).toNat * 6 }),.agg ⟨[.int .u32 (intOf' (getD' undef (rels rs) (0 + (↑k : Int).toNat * 6))),.bool (boolOf' (getD' undef (rels rs) (0 + (↑k : Int).toNat * 6 + 1))),.int .u32 (intOf' (getD' undef (rels rs) (0 + (↑k : Int).toNat * 6 + 1 + 1))),.int .u32 (intOf' (getD' undef (rels rs) (0 + (↑k : Int).toNat * 6 + 1 + 1 + 1))),.int .u16 (intOf' (getD' undef (rels rs) (0 + (↑k : Int).toNat * 6 + 1 + 1 + 1 + 1))),.int .u16 (intOf' (getD' undef (rels rs) (0 + (↑k : Int).toNat * 6 + 1 + 1 + 1 + 1 + 1)))]⟩,.agg ⟨[.int .i64 pages,.int .i64 stack,.int .i64 types,.slice (some ⟨64,0,none⟩) nc 9223372036854775872,.string ⟨⟨data⟩⟩,.slice (some ⟨65,0,none⟩) rs.length 9223372036854775873,.slice (some ⟨66,0,none⟩) ns 9223372036854775874]⟩,.agg ⟨[.int .u32 a,.int .u32 b,.int .u32 c,.int .u32 d,.int .u32 e,.int .u32 f,.int .u32 g,.int .u32 h]⟩,.agg ⟨[.int .u32 (intOf' (getD' undef (rels rs) (0 + (↑k : Int).toNat * 6))),.bool (boolOf' (getD' undef (rels rs) (0 + (↑k : Int).toNat * 6 + 1))),.int .u32 (intOf' (getD' undef (rels rs) (0 + (↑k : Int).toNat * 6 + 1 + 1))),.int .u32 (intOf' (getD' undef (rels rs) (0 + (↑k : Int).toNat * 6 + 1 + 1 + 1))),.int .u16 (intOf' (getD' undef (rels rs) (0 + (↑k : Int).toNat * 6 + 1 + 1 + 1 + 1))),.int .u16 (intOf' (getD' undef (rels rs) (0 + (↑k : Int).toNat * 6 + 1 + 1 + 1 + 1 + 1)))]⟩,.int .u32 (↑behind),.bool (relRight types nc data.length a.toNat c.toNat { at_:=(intOf' (getD' undef (rels rs) (0 + (↑k : Int).toNat * 6))).toNat,code:=boolOf' (getD' undef (rels rs) (0 + (↑k : Int).toNat * 6 + 1)),off:=(intOf' (getD' undef (rels rs) (0 + (↑k : Int).toNat * 6 + 1 + 1))).toNat,size:=(intOf' (getD' undef (rels rs) (0 + (↑k : Int).toNat * 6 + 1 + 1 + 1))).toNat,perms:=(intOf' (getD' undef (rels rs) (0 + (↑k : Int).toNat * 6 + 1 + 1 + 1 + 1))).toNat,typ:=(intOf' (getD' undef (rels rs) (0 + (↑k : Int).toNat * 6 + 1 + 1 + 1 + 1 + 1))).toNat : Rl } (↑behind : Int).toNat),.bool !relRight types nc data.length a.toNat c.toNat { at_:=(intOf' (getD' undef (rels rs) (0 + (↑k : Int).toNat * 6))).toNat,code:=boolOf' (getD' undef (rels rs) (0 + (↑k : Int).toNat * 6 + 1)),off:=(intOf' (getD' undef (rels rs) (0 + (↑k : Int).toNat * 6 + 1 + 1))).toNat,size:=(intOf' (getD' undef (rels rs) (0 + (↑k : Int).toNat * 6 + 1 + 1 + 1))).toNat,perms:=(intOf' (getD' undef (rels rs) (0 + (↑k : Int).toNat * 6 + 1 + 1 + 1 + 1))).toNat,typ:=(intOf' (getD' undef (rels rs) (0 + (↑k : Int).toNat * 6 + 1 + 1 + 1 + 1 + 1))).toNat : Rl } (↑behind : Int).toNat,.agg ⟨[.int .u32 0,.int .u32 0,.int .u32 0,.int .u32 0,.int .u32 0,.int .u32 0,.int .u32 0,.int .u32 0]⟩,unk,unk,unk],[unk,unk,unk,unk,unk,unk,unk,unk,unk,unk,unk,unk,unk,unk,unk,unk]],s:={ n:=73,h:=[(72,⟨true,none,[Value.int .u32 (intOf' (getD' undef (rels rs) (0 + (↑k : Int).toNat * 6))),.bool (boolOf' (getD' undef (rels rs) (0 + (↑k : Int).toNat * 6 + 1))),.int .u32 (intOf' (getD' undef (rels rs) (0 + (↑k : Int).toNat * 6 + 1 + 1))),.int .u32 (intOf' (getD' undef (rels rs) (0 + (↑k : Int).toNat * 6 + 1 + 1 + 1))),.int .u16 (intOf' (getD' undef (rels rs) (0 + (↑k : Int).toNat * 6 + 1 + 1 + 1 + 1))),.int .u16 (intOf' (getD' undef (rels rs) (0 + (↑k : Int).toNat * 6 + 1 + 1 + 1 + 1 + 1)))],none⟩),(65,⟨false,some (0,0),rels rs,none⟩),(67,⟨false,none,[Value.int .i64 pages,.int .i64 stack,.int .i64 types,.slice (some ⟨64,0,none⟩) nc 9223372036854775872,.string ⟨⟨data⟩⟩,.slice (some ⟨65,0,none⟩) rs.length 9223372036854775873,.slice (some ⟨66,0,none⟩) ns 9223372036854775874],none⟩),(68,⟨true,none,[Value.int .u32 0,.int .u32 0,.int .u32 0,.int .u32 0,.int .u32 0,.int .u32 0,.int .u32 0,.int .u32 0],none⟩),(71,⟨false,none,[Value.int .u32 a,.int .u32 b,.int .u32 c,.int .u32 d,.int .u32 e,.int .u32 f,.int .u32 g,.int .u32 h],none⟩)],lo:=[],esc:=0,T:=[],k:=2,O:=((bif hasN (0 + (↑k : Int).toNat * 6 + 6) (rels rs) && isLikeL [Value.int .u32 0,.bool false,.int .u32 0,.int .u32 0,.int .u16 0,.int .u16 0] (rels rs) (0 + (↑k : Int).toNat * 6) then bif decide ((0 : Int) ≤ (↑k : Int)) && decide ((↑k : Int) < (↑rs.length : Int)) then True ∧ decide ((↑k : Int) < (↑rs.length : Int)) = true else False else False) ∧ rightOk nc data.length a.toNat c.toNat { at_:=(intOf' (getD' undef (rels rs) (0 + (↑k : Int).toNat * 6))).toNat,code:=boolOf' (getD' undef (rels rs) (0 + (↑k : Int).toNat * 6 + 1)),off:=(intOf' (getD' undef (rels rs) (0 + (↑k : Int).toNat * 6 + 1 + 1))).toNat,size:=(intOf' (getD' undef (rels rs) (0 + (↑k : Int).toNat * 6 + 1 + 1 + 1))).toNat,perms:=(intOf' (getD' undef (rels rs) (0 + (↑k : Int).toNat * 6 + 1 + 1 + 1 + 1))).toNat,typ:=(intOf' (getD' undef (rels rs) (0 + (↑k : Int).toNat * 6 + 1 + 1 + 1 + 1 + 1))).toNat : Rl } ∧ (rr (Value.agg ⟨[.int .i64 pages,.int .i64 stack,.int .i64 types,.slice (some ⟨64,0,none⟩) nc 9223372036854775872,.string ⟨⟨data⟩⟩,.slice (some ⟨65,0,none⟩) rs.length 9223372036854775873,.slice (some ⟨66,0,none⟩) ns 9223372036854775874]⟩) ∧ Value.agg ⟨[.int .u32 a,.int .u32 b,.int .u32 c,.int .u32 d,.int .u32 e,.int .u32 f,.int .u32 g,.int .u32 h]⟩ = Value.agg ⟨[.int .u32 (↑a.toNat),.int .u32 b,.int .u32 (↑c.toNat),.int .u32 d,.int .u32 e,.int .u32 f,.int .u32 g,.int .u32 h]⟩ ∧ Value.agg ⟨[.int .u32 (intOf' (getD' undef (rels rs) (0 + (↑k : Int).toNat * 6))),.bool (boolOf' (getD' undef (rels rs) (0 + (↑k : Int).toNat * 6 + 1))),.int .u32 (intOf' (getD' undef (rels rs) (0 + (↑k : Int).toNat * 6 + 1 + 1))),.int .u32 (intOf' (getD' undef (rels rs) (0 + (↑k : Int).toNat * 6 + 1 + 1 + 1))),.int .u16 (intOf' (getD' undef (rels rs) (0 + (↑k : Int).toNat * 6 + 1 + 1 + 1 + 1))),.int .u16 (intOf' (getD' undef (rels rs) (0 + (↑k : Int).toNat * 6 + 1 + 1 + 1 + 1 + 1)))]⟩ = Value.agg ⟨[.int .u32 (↑(intOf' (getD' undef (rels rs) (0 + (↑k : Int).toNat * 6))).toNat : Int),.bool (boolOf' (getD' undef (rels rs) (0 + (↑k : Int).toNat * 6 + 1))),.int .u32 (↑(intOf' (getD' undef (rels rs) (0 + (↑k : Int).toNat * 6 + 1 + 1))).toNat : Int),.int .u32 (↑(intOf' (getD' undef (rels rs) (0 + (↑k : Int).toNat * 6 + 1 + 1 + 1))).toNat : Int),.int .u16 (↑(intOf' (getD' undef (rels rs) (0 + (↑k : Int).toNat * 6 + 1 + 1 + 1 + 1))).toNat : Int),.int .u16 (↑(intOf' (getD' undef (rels rs) (0 + (↑k : Int).toNat * 6 + 1 + 1 + 1 + 1 + 1))).toNat : Int)]⟩ ∧ Value.int .u32 (↑behind) = Value.int .u32 (↑(↑behind : Int).toNat : Int) ∧ True) ∧ True ∧ True) ∧ (!relRight types nc data.length a.toNat c.toNat { at_:=(intOf' (getD' undef (rels rs) (0 + (↑k : Int).toNat * 6))).toNat,code:=boolOf' (getD' undef (rels rs) (0 + (↑k : Int).toNat * 6 + 1)),off:=(intOf' (getD' undef (rels rs) (0 + (↑k : Int).toNat * 6 + 1 + 1))).toNat,size:=(intOf' (getD' undef (rels rs) (0 + (↑k : Int).toNat * 6 + 1 + 1 + 1))).toNat,perms:=(intOf' (getD' undef (rels rs) (0 + (↑k : Int).toNat * 6 + 1 + 1 + 1 + 1))).toNat,typ:=(intOf' (getD' undef (rels rs) (0 + (↑k : Int).toNat * 6 + 1 + 1 + 1 + 1 + 1))).toNat : Rl } (↑behind : Int).toNat) = true : St } : Fr }):=by kernel_rfl
theorem lr_end (pages : Int) (stack : Int) (types : Int) (nc : Nat) (ns : Nat) (data : List UInt8) (rs : List Rl) (a : Int) (b : Int) (c : Int) (d : Int) (e : Int) (f : Int) (g : Int) (h : Int) (behind : Nat) (k : Nat) : evC Try.prog (evF Try.prog (baseC 3 selL) noLoop 100 3) (noLoop 10) 98 100 (loopOf Try.prog 10 0) (Sf.frT 98 (relI pages stack types nc ns data rs a b c d e f g h behind k) [(0,false)]) = some (Exit.exit 1,{ e:=[[unk,.pointer (some ⟨67,0,none⟩),.pointer (some ⟨68,0,none⟩),unk,.pointer (some ⟨71,0,none⟩),unk,.int .u32 (↑behind),unk,unk,unk,unk,unk,unk,unk,unk,unk],[unk,unk,unk,unk,unk,unk,unk,unk,unk,unk,unk,unk,unk,unk,unk,unk],[unk,unk,unk,unk,unk,unk,unk,unk,unk,unk,unk,unk,unk,unk,unk,unk],[unk,unk,unk,unk,unk,unk,unk,unk,unk,unk,unk,unk,unk,unk,unk,unk],[unk,unk,unk,unk,unk,unk,unk,unk,unk,unk,unk,unk,unk,unk,unk,unk],[Value.slice (some ⟨65,0,none⟩) rs.length 9223372036854775873,.int .i64 (↑rs.length),.int .i64 (↑k),.bool (decide ((↑k : Int) < (↑rs.length : Int))),unk,unk,unk,unk,unk,unk,unk,unk,unk,unk,unk,unk],[unk,unk,unk,unk,unk,unk,unk,unk,unk,unk,unk,unk,unk,unk,unk,unk]],s:={ n:=72,h:=[(65,⟨false,some (0,0),rels rs,none⟩),(67,⟨false,none,[Value.int .i64 pages,.int .i64 stack,.int .i64 types,.slice (some ⟨64,0,none⟩) nc 9223372036854775872,.string ⟨⟨data⟩⟩,.slice (some ⟨65,0,none⟩) rs.length 9223372036854775873,.slice (some ⟨66,0,none⟩) ns 9223372036854775874],none⟩),(68,⟨true,none,[Value.int .u32 0,.int .u32 0,.int .u32 0,.int .u32 0,.int .u32 0,.int .u32 0,.int .u32 0,.int .u32 0],none⟩),(71,⟨false,none,[Value.int .u32 a,.int .u32 b,.int .u32 c,.int .u32 d,.int .u32 e,.int .u32 f,.int .u32 g,.int .u32 h],none⟩)],lo:=[],esc:=0,T:=[],k:=1,O:=True ∧ decide ((↑k : Int) < (↑rs.length : Int)) = false : St } : Fr }):=by kernel_rfl
theorem right_at {types : Int} {nc len a c : Nat} {r : Rl} {behind : Nat} (h : relRight types nc len a c r behind = true) : r.at_ % 16 = 0 ∧ behind ≤ r.at_ ∧ r.at_ + 16 ≤ len:=by
 unfold relRight relBad at h
 simp only [rr, tt, Bool.and_eq_true,Bool.not_eq_true',Bool.or_eq_false_iff,decide_eq_false_iff_not] at h
 obtain ⟨⟨h1,h2,h3,_⟩,_⟩:=h
 exact ⟨by omega,by omega,by omega⟩
theorem rel_wf (pages stack types : Int) (nc ns : Nat) (data : List UInt8) (rs : List Rl) (a b c d e f g h : Int) (behind k : Nat) : (relI pages stack types nc ns data rs a b c d e f g h behind k).Wf :=
 ⟨by show NG ≤ 72; decide,Sf.Ok.mk' 3 ⟨⟨rfl,rfl,flat_bnd (rels_flat rs)⟩,⟨rfl,rfl,fun v hv => okV_bnd 3 v (List.all_eq_true.1 (show (imgL pages stack types nc rs.length ns data).all (okV (fun l => Nat.blt l 72) 3) = true from by kernel_rfl) v hv)⟩,⟨rfl,rfl,fun v hv => okV_bnd 3 v (List.all_eq_true.1 (show zeros8.all (okV (fun l => Nat.blt l 72) 3) = true from by kernel_rfl) v hv)⟩,⟨rfl,rfl,fun v hv => okV_bnd 3 v (List.all_eq_true.1 (show (layL a b c d e f g h).all (okV (fun l => Nat.blt l 72) 3) = true from by kernel_rfl) v hv)⟩,trivial⟩ rfl (fun x hx => by
  have : (relI pages stack types nc ns data rs a b c d e f g h behind k).e.all (fun x => okV (fun l => Nat.blt l 72) 3 x.2) = true:=by kernel_rfl
  exact List.all_eq_true.1 this x hx)⟩
theorem relF_ok : relF.Ok (keeps 72 72 id (fun l => Nat.blt l 72)):=Sf.Ok.mk' 3 ⟨⟨rfl,rfl,fun v hv => okV_bnd 3 v (List.all_eq_true.1 (show zeros8.all (okV (keeps 72 72 id (fun l => Nat.blt l 72)) 3) = true from by kernel_rfl) v hv)⟩,trivial⟩ rfl (fun x hx => by
  have : relF.e.all (fun x => okV (keeps 72 72 id (fun l => Nat.blt l 72)) 3 x.2) = true:=by kernel_rfl
  exact List.all_eq_true.1 this x hx)
theorem relE_ok : relE.Ok (keeps 72 72 id (fun l => Nat.blt l 72)):=Sf.Ok.mk' 3 ⟨⟨rfl,rfl,fun v hv => okV_bnd 3 v (List.all_eq_true.1 (show zeros8.all (okV (keeps 72 72 id (fun l => Nat.blt l 72)) 3) = true from by kernel_rfl) v hv)⟩,trivial⟩ rfl (fun x hx => by
  have : relE.e.all (fun x => okV (keeps 72 72 id (fun l => Nat.blt l 72)) 3 x.2) = true:=by kernel_rfl
  exact List.all_eq_true.1 this x hx)
theorem rel_next (pages stack types : Int) (nc ns : Nat) (data : List UInt8) (rs : List Rl) (a b c d e f g h : Int) (behind k : Nat) (ex : Sf) (hk : k < rs.length) (hm : rs.length ≤ 100000) (ha : 0 ≤ a) (hc : 0 ≤ c) (hr : rightOk nc data.length a.toNat c.toNat (rl0 rs k)) (hv : relRight types nc data.length a.toNat c.toNat (rl0 rs k) behind = true) (hn : ex.n = 72) (he : ex.Ok (keeps 72 72 id (fun l => Nat.blt l 72))) :
  ∃ g1,evC Try.prog (evF Try.prog (baseC 3 selL) noLoop 100 3) (noLoop 10) 98 100 (loopOf Try.prog 10 0) ((relI pages stack types nc ns data rs a b c d e f g h behind k).frT 98 [(0,true),(1,false)]) = some (.normal,g1) ∧ g1.s.O ∧
   Sf.Leads 3 (fun l => Nat.blt l 72) id (relI pages stack types nc ns data rs a b c d e f g h behind k) g1 (relI pages stack types nc ns data rs a b c d e f g h ((rl0 rs k).at_ + 16) (k + 1)) ex:=by
 rcases hrr : rl0 rs k with ⟨at_,code,off,size,perms,typ⟩
 rw [hrr] at hr hv
 have f0 : intOf' (getD' undef (rels rs) (0 + k * 6)) = (at_ : Int):=by
  rw [Nat.zero_add]; have:=rels_0 hk; rw [hrr] at this; exact this
 have f1 : boolOf' (getD' undef (rels rs) (0 + k * 6 + 1)) = code:=by
  rw [Nat.zero_add]; have:=rels_1 hk; rw [hrr] at this; exact this
 have f2 : intOf' (getD' undef (rels rs) (0 + k * 6 + 1 + 1)) = (off : Int):=by
  rw [Nat.zero_add]; have:=rels_2 hk; rw [hrr] at this; exact this
 have f3 : intOf' (getD' undef (rels rs) (0 + k * 6 + 1 + 1 + 1)) = (size : Int):=by
  rw [Nat.zero_add]; have:=rels_3 hk; rw [hrr] at this; exact this
 have f4 : intOf' (getD' undef (rels rs) (0 + k * 6 + 1 + 1 + 1 + 1)) = (perms : Int):=by
  rw [Nat.zero_add]; have:=rels_4 hk; rw [hrr] at this; exact this
 have f5 : intOf' (getD' undef (rels rs) (0 + k * 6 + 1 + 1 + 1 + 1 + 1)) = (typ : Int):=by
  rw [Nat.zero_add]; have:=rels_5 hk; rw [hrr] at this; exact this
 have g1 : hasN (0 + k * 6 + 6) (rels rs) = true:=by rw [rels_has]; simp; omega
 have g2 : isLikeL [Value.int IntKind.u32 (0 : Int),Value.bool false,Value.int IntKind.u32 (0 : Int),Value.int IntKind.u32 (0 : Int),Value.int IntKind.u16 (0 : Int),Value.int IntKind.u16 (0 : Int)] (rels rs) (0 + k * 6) = true:=by rw [Nat.zero_add]; exact rels_like hk _ _ _ _ _ _
 have g5 : decide ((0 : Int) ≤ (k : Int)) = true:=by simp
 have g6 : decide ((k : Int) < (rs.length : Int)) = true:=by simp; omega
 have ha2 : ((a.toNat : Nat) : Int) = a:=Int.toNat_of_nonneg ha
 have hc2 : ((c.toNat : Nat) : Int) = c:=Int.toNat_of_nonneg hc
 refine ⟨_,lr_next pages stack types nc ns data rs a b c d e f g h behind k,?_,?_⟩
 ·simp only [rr, tt, f0,f1,f2,f3,f4,f5,Int.toNat_natCast,g5,g6,ha2,hc2,g1,g2,hv,Bool.not_true,Bool.and_self,cond_true]
  exact ⟨⟨⟨trivial,trivial⟩,hr,⟨trivial,trivial,trivial,trivial,trivial⟩,trivial,trivial⟩,trivial⟩
 ·refine ⟨fun _ _ => rfl,⟨⟨rfl,flat_all (rels_flat rs),rfl,rfl,rfl,trivial,(flat_map (rels_flat rs)).symm⟩,⟨rfl,by kernel_rfl,rfl,rfl,rfl,trivial,by kernel_rfl⟩,⟨rfl,by kernel_rfl,rfl,rfl,rfl,trivial,by kernel_rfl⟩,⟨rfl,by kernel_rfl,rfl,rfl,rfl,trivial,by kernel_rfl⟩,trivial⟩,rfl,trivial,⟨⟨by kernel_rfl,by kernel_rfl⟩,⟨by kernel_rfl,by kernel_rfl⟩,⟨by kernel_rfl,by kernel_rfl⟩,⟨rfl,?_⟩,⟨by kernel_rfl,by kernel_rfl⟩,⟨rfl,by kernel_rfl⟩,⟨rfl,?_⟩,trivial⟩,Nat.le_refl _,fun l hl => blt_no hl,?_,?_⟩
  ·refine Eq.trans (b:=Value.int .u32 (IntKind.u32.wrap (intOf' (getD' undef (rels rs) (0 + (k : Int).toNat * 6)) + 16))) (by kernel_rfl) ?_
   rw [Int.toNat_natCast,f0]
   show _ = Value.int .u32 ((at_ + 16 : Nat) : Int)
   have:=(right_at hv).2.2; have:=hr.2.2.1; rw [IntKind.wrap_u32]; congr 1; simp only [] at *; omega
  ·refine Eq.trans (b:=Value.int .i64 (IntKind.i64.wrap ((k : Int) + 1))) (by kernel_rfl) ?_
   rw [cast_succ_i64 k (by omega)]; rfl
  ·rw [hn]; exact he
  ·intro x _ _; exact .inl rfl
theorem rel_bad (pages stack types : Int) (nc ns : Nat) (data : List UInt8) (rs : List Rl) (a b c d e f g h : Int) (behind k : Nat) (ex : Sf) (hk : k < rs.length) (_ : rs.length ≤ 100000) (ha : 0 ≤ a) (hc : 0 ≤ c) (hr : rightOk nc data.length a.toNat c.toNat (rl0 rs k)) (hv : relRight types nc data.length a.toNat c.toNat (rl0 rs k) behind = false) (hx : ex = relF) :
  ∃ g1,evC Try.prog (evF Try.prog (baseC 3 selL) noLoop 100 3) (noLoop 10) 98 100 (loopOf Try.prog 10 0) ((relI pages stack types nc ns data rs a b c d e f g h behind k).frT 98 [(0,true),(1,true)]) = some (.ret,g1) ∧ g1.s.O ∧
   Sf.Leads 3 (fun l => Nat.blt l 72) id (relI pages stack types nc ns data rs a b c d e f g h behind k) g1 ex ex:=by
 rcases hrr : rl0 rs k with ⟨at_,code,off,size,perms,typ⟩
 rw [hrr] at hr hv
 have f0 : intOf' (getD' undef (rels rs) (0 + k * 6)) = (at_ : Int):=by
  rw [Nat.zero_add]; have:=rels_0 hk; rw [hrr] at this; exact this
 have f1 : boolOf' (getD' undef (rels rs) (0 + k * 6 + 1)) = code:=by
  rw [Nat.zero_add]; have:=rels_1 hk; rw [hrr] at this; exact this
 have f2 : intOf' (getD' undef (rels rs) (0 + k * 6 + 1 + 1)) = (off : Int):=by
  rw [Nat.zero_add]; have:=rels_2 hk; rw [hrr] at this; exact this
 have f3 : intOf' (getD' undef (rels rs) (0 + k * 6 + 1 + 1 + 1)) = (size : Int):=by
  rw [Nat.zero_add]; have:=rels_3 hk; rw [hrr] at this; exact this
 have f4 : intOf' (getD' undef (rels rs) (0 + k * 6 + 1 + 1 + 1 + 1)) = (perms : Int):=by
  rw [Nat.zero_add]; have:=rels_4 hk; rw [hrr] at this; exact this
 have f5 : intOf' (getD' undef (rels rs) (0 + k * 6 + 1 + 1 + 1 + 1 + 1)) = (typ : Int):=by
  rw [Nat.zero_add]; have:=rels_5 hk; rw [hrr] at this; exact this
 have g1 : hasN (0 + k * 6 + 6) (rels rs) = true:=by rw [rels_has]; simp; omega
 have g2 : isLikeL [Value.int IntKind.u32 (0 : Int),Value.bool false,Value.int IntKind.u32 (0 : Int),Value.int IntKind.u32 (0 : Int),Value.int IntKind.u16 (0 : Int),Value.int IntKind.u16 (0 : Int)] (rels rs) (0 + k * 6) = true:=by rw [Nat.zero_add]; exact rels_like hk _ _ _ _ _ _
 have g5 : decide ((0 : Int) ≤ (k : Int)) = true:=by simp
 have g6 : decide ((k : Int) < (rs.length : Int)) = true:=by simp; omega
 have ha2 : ((a.toNat : Nat) : Int) = a:=Int.toNat_of_nonneg ha
 have hc2 : ((c.toNat : Nat) : Int) = c:=Int.toNat_of_nonneg hc
 refine ⟨_,lr_bad pages stack types nc ns data rs a b c d e f g h behind k,?_,?_⟩
 ·simp only [rr, tt, f0,f1,f2,f3,f4,f5,Int.toNat_natCast,g5,g6,ha2,hc2,g1,g2,hv,Bool.not_false,Bool.and_self,cond_true]
  exact ⟨⟨⟨trivial,trivial⟩,hr,⟨trivial,trivial,trivial,trivial,trivial⟩,trivial,trivial⟩,trivial⟩
 ·subst hx
  exact ⟨fun _ _ => rfl,⟨⟨rfl,by kernel_rfl,rfl,rfl,rfl,trivial,by kernel_rfl⟩,trivial⟩,rfl,trivial,⟨⟨by kernel_rfl,by kernel_rfl⟩,⟨rfl,by kernel_rfl⟩,trivial⟩,Nat.le_refl _,fun l hl => blt_no hl,relF_ok,fun x _ _ => .inl rfl⟩
theorem relE_leads (pages stack types : Int) (nc ns : Nat) (data : List UInt8) (rs : List Rl) (a b c d e f g h : Int) (behind k : Nat) (hk : k = rs.length) :
  ∃ g1,evC Try.prog (evF Try.prog (baseC 3 selL) noLoop 100 3) (noLoop 10) 98 100 (loopOf Try.prog 10 0) ((relI pages stack types nc ns data rs a b c d e f g h behind k).frT 98 [(0,false)]) = some (.exit 1,g1) ∧ g1.s.O ∧
   Sf.Leads 3 (fun l => Nat.blt l 72) id (relI pages stack types nc ns data rs a b c d e f g h behind k) g1 relE relE:=by
 refine ⟨_,lr_end pages stack types nc ns data rs a b c d e f g h behind k,?_,?_⟩
 ·subst hk; simp
 ·exact ⟨fun _ _ => rfl,⟨⟨rfl,by kernel_rfl,rfl,rfl,rfl,trivial,by kernel_rfl⟩,trivial⟩,rfl,trivial,⟨⟨by kernel_rfl,by kernel_rfl⟩,⟨by kernel_rfl,by kernel_rfl⟩,trivial⟩,Nat.le_refl _,fun l hl => blt_no hl,relE_ok,fun x _ _ => .inl rfl⟩
theorem rel_found (pages stack types : Int) (nc ns : Nat) (data : List UInt8) (rs : List Rl) (a b c d e f g h : Int) (j : Nat) (hj : j < rs.length) (hm : rs.length ≤ 100000) (ha : 0 ≤ a) (hc : 0 ≤ c) (hr : ∀ i,i < rs.length → rightOk nc data.length a.toNat c.toNat (rl0 rs i)) (hv : relRight types nc data.length a.toNat c.toNat (rl0 rs j) (behindN rs j) = false) (hn : ∀ i,i < j → relRight types nc data.length a.toNat c.toNat (rl0 rs i) (behindN rs i) = true) :
  ∀ x : { k : Nat // k ≤ j },LoopOk Try.prog 98 (loopOf Try.prog 10 0) ((relI pages stack types nc ns data rs a b c d e f g h (behindN rs x.1) x.1).fr 98) .ret (relF.fr 98):=by
 refine loop_ok (L:=100) (run_ok (L:=100) i_names (baseC_ok selL_ok) (noLoop_ok _) 3) (noLoop_any _ _ 10) (fun _ h => h) (X:={ k : Nat // k ≤ j }) (fun x => relI pages stack types nc ns data rs a b c d e f g h (behindN rs x.1) x.1) (fun _ => relF) (fun _ => .ret) (fun x => j - x.1) (fun x => rel_wf pages stack types nc ns data rs a b c d e f g h (behindN rs x.1) x.1) ?_
 rintro ⟨k,hk⟩
 by_cases h0 : k = j
 ·subst h0
  obtain ⟨g1,h1,h2,h3⟩:=rel_bad pages stack types nc ns data rs a b c d e f g h (behindN rs k) k relF hj hm ha hc (hr k hj) hv rfl
  exact ⟨_,.ret,g1,3,_,_,h1,h2,.inr ⟨by simp,rfl,h3⟩⟩
 ·obtain ⟨g1,h1,h2,h3⟩:=rel_next pages stack types nc ns data rs a b c d e f g h (behindN rs k) k relF (by omega) hm ha hc (hr k (by omega)) (hn k (by omega)) rfl relF_ok
  exact ⟨_,.normal,g1,3,_,_,h1,h2,.inl ⟨rfl,⟨k + 1,by omega⟩,by show j - (k + 1) < j - k; omega,rfl,rfl,h3⟩⟩
theorem rel_none (pages stack types : Int) (nc ns : Nat) (data : List UInt8) (rs : List Rl) (a b c d e f g h : Int) (hm : rs.length ≤ 100000) (ha : 0 ≤ a) (hc : 0 ≤ c) (hr : ∀ i,i < rs.length → rightOk nc data.length a.toNat c.toNat (rl0 rs i)) (hn : ∀ i,i < rs.length → relRight types nc data.length a.toNat c.toNat (rl0 rs i) (behindN rs i) = true) :
  ∀ x : { k : Nat // k ≤ rs.length },LoopOk Try.prog 98 (loopOf Try.prog 10 0) ((relI pages stack types nc ns data rs a b c d e f g h (behindN rs x.1) x.1).fr 98) (.exit 1) (relE.fr 98):=by
 refine loop_ok (L:=100) (run_ok (L:=100) i_names (baseC_ok selL_ok) (noLoop_ok _) 3) (noLoop_any _ _ 10) (fun _ h => h) (X:={ k : Nat // k ≤ rs.length }) (fun x => relI pages stack types nc ns data rs a b c d e f g h (behindN rs x.1) x.1) (fun _ => relE) (fun _ => .exit 1) (fun x => rs.length - x.1) (fun x => rel_wf pages stack types nc ns data rs a b c d e f g h (behindN rs x.1) x.1) ?_
 rintro ⟨k,hk⟩
 by_cases h0 : k < rs.length
 ·obtain ⟨g1,h1,h2,h3⟩:=rel_next pages stack types nc ns data rs a b c d e f g h (behindN rs k) k relE h0 hm ha hc (hr k h0) (hn k h0) rfl relE_ok
  exact ⟨_,.normal,g1,3,_,_,h1,h2,.inl ⟨rfl,⟨k + 1,by omega⟩,by show rs.length - (k + 1) < rs.length - k; omega,rfl,rfl,h3⟩⟩
 ·obtain ⟨g1,h1,h2,h3⟩:=relE_leads pages stack types nc ns data rs a b c d e f g h (behindN rs k) k (by omega)
  exact ⟨_,.exit 1,g1,3,_,_,h1,h2,.inr ⟨by simp,rfl,h3⟩⟩
def relEntF (pages stack types : Int) (nc ns : Nat) (data : List UInt8) (rs : List Rl) (a b c d e f g h : Int) (j : Nat) (hj : j < rs.length) (hm : rs.length ≤ 100000) (ha : 0 ≤ a) (hc : 0 ≤ c) (hr : ∀ i,i < rs.length → rightOk nc data.length a.toNat c.toNat (rl0 rs i)) (hv : relRight types nc data.length a.toNat c.toNat (rl0 rs j) (behindN rs j) = false) (hn : ∀ i,i < j → relRight types nc data.length a.toNat c.toNat (rl0 rs i) (behindN rs i) = true) : Ent Try.prog :=
 entC Try.prog 10 0 98 (relI pages stack types nc ns data rs a b c d e f g h 0 0) .ret relF (by kernel_rfl) (by kernel_rfl) (rel_found pages stack types nc ns data rs a b c d e f g h j hj hm ha hc hr hv hn ⟨0,Nat.zero_le _⟩)
def relEntN (pages stack types : Int) (nc ns : Nat) (data : List UInt8) (rs : List Rl) (a b c d e f g h : Int) (hm : rs.length ≤ 100000) (ha : 0 ≤ a) (hc : 0 ≤ c) (hr : ∀ i,i < rs.length → rightOk nc data.length a.toNat c.toNat (rl0 rs i)) (hn : ∀ i,i < rs.length → relRight types nc data.length a.toNat c.toNat (rl0 rs i) (behindN rs i) = true) : Ent Try.prog :=
 entC Try.prog 10 0 98 (relI pages stack types nc ns data rs a b c d e f g h 0 0) (.exit 1) relE (by kernel_rfl) (by kernel_rfl) (rel_none pages stack types nc ns data rs a b c d e f g h hm ha hc hr hn ⟨0,Nat.zero_le _⟩)
end Go.Proofs.Ytdljpnebpoaeiaa
namespace Go.Proofs.Ytdljpnebpoaeiaa
open Go.RowKit
open Sy
theorem lay_long (pages stack types : Int) (nc : Nat) (data : List UInt8) (rs : List Rl) (starts : List Nat) : evF Try.prog (baseC 3 selL) noLoop 100 10 10 [imgV pages stack types nc rs.length starts.length data] (layS rs starts [(0,true)]) = some (Value.tuple { toList:=[Value.agg ⟨[.int .u32 0,.int .u32 0,.int .u32 0,.int .u32 0,.int .u32 0,.int .u32 0,.int .u32 0,.int .u32 0]⟩,.int .i64 3] },{ n:=70,h:=[(65,⟨false,some (0,0),rels rs,none⟩),(66,⟨false,some (0,0),u32s starts,none⟩)],lo:=[],esc:=0,T:=[],k:=1,O:=(True∧(tt∧4 < 9000000000000000000)∧(rr (Value.slice (some ⟨69,0,none⟩) 4 4)∧True)∧((tt∧tt∧tt∧tt∧tt∧True∧rr [Value.bool (decide ((↑nc:Int) > (4096:Int))),.bool (decide ((↑(lenT data):Int) > (16384:Int))),.bool (decide ((↑rs.length:Int) > (256:Int))),.bool (decide ((↑starts.length:Int) > (4:Int)))])∧True)∧True)∧(!!(decide ((↑nc:Int) > (4096:Int)) || (decide ((↑(lenT data):Int) > (16384:Int)) || (decide ((↑rs.length:Int) > (256:Int)) || (decide ((↑starts.length:Int) > (4:Int)) || false))))) = true : St }):=by kernel_rfl
theorem lay_arg (pages stack types : Int) (nc : Nat) (data : List UInt8) (rs : List Rl) (starts : List Nat) : evF Try.prog (baseC 3 selL) noLoop 100 10 10 [imgV pages stack types nc rs.length starts.length data] (layS rs starts [(0,false),(1,true)]) = some (Value.tuple { toList:=[Value.agg ⟨[.int .u32 0,.int .u32 0,.int .u32 0,.int .u32 0,.int .u32 0,.int .u32 0,.int .u32 0,.int .u32 0]⟩,.int .i64 2] },{ n:=71,h:=[(65,⟨false,some (0,0),rels rs,none⟩),(66,⟨false,some (0,0),u32s starts,none⟩)],lo:=[],esc:=0,T:=[],k:=2,O:=(((True∧(tt∧4 < 9000000000000000000)∧(rr (Value.slice (some ⟨69,0,none⟩) 4 4)∧True)∧((tt∧tt∧tt∧tt∧tt∧True∧rr [Value.bool (decide ((↑nc:Int) > (4096:Int))),.bool (decide ((↑(lenT data):Int) > (16384:Int))),.bool (decide ((↑rs.length:Int) > (256:Int))),.bool (decide ((↑starts.length:Int) > (4:Int)))])∧True)∧True)∧(!!(decide ((↑nc:Int) > (4096:Int)) || (decide ((↑(lenT data):Int) > (16384:Int)) || (decide ((↑rs.length:Int) > (256:Int)) || (decide ((↑starts.length:Int) > (4:Int)) || false))))) = false)∧(tt∧9 < 9000000000000000000)∧(rr (Value.slice (some ⟨70,0,none⟩) 9 9)∧True)∧((tt∧tt∧tt∧tt∧tt∧True∧rr [Value.bool (decide (pages < (16:Int))),.bool (decide (pages > (1024:Int))),.bool (decide (stack < (256:Int))),.bool (decide (stack > (4096:Int))),.bool (stack.tmod (256:Int) != (0:Int)),.bool (decide (types < (0:Int))),.bool (decide (types > (2048:Int))),.bool ((↑nc:Int) == (0:Int)),.bool ((↑starts.length:Int) == (0:Int))])∧True)∧True)∧(!!(decide (pages < (16:Int)) || (decide (pages > (1024:Int)) || (decide (stack < (256:Int)) || (decide (stack > (4096:Int)) || (stack.tmod (256:Int) != (0:Int) || (decide (types < (0:Int)) || (decide (types > (2048:Int)) || ((↑nc:Int) == (0:Int) || ((↑starts.length:Int) == (0:Int) || false)))))))))) = true : St }):=by kernel_rfl
theorem lay_far (pages stack types : Int) (nc : Nat) (data : List UInt8) (rs : List Rl) (starts : List Nat) (j : Nat) (hl : starts.length < 9000000000000000000) (hx : ∀ (x : Nat),x ∈ starts → x < 4294967296) (hj : j < starts.length) (hv : nc ≤ starts.getD j 0) (hn : ∀ (i : Nat),i < j → starts.getD i 0 < nc) : evF Try.prog (baseC 3 selL) (lpOf [stEntF pages stack types nc rs.length data starts j hl hx hj hv hn]) 100 10 10 [imgV pages stack types nc rs.length starts.length data] (layS rs starts [(0,false),(1,false)]) = some (Value.tuple { toList:=[Value.agg ⟨[.int .u32 0,.int .u32 0,.int .u32 0,.int .u32 0,.int .u32 0,.int .u32 0,.int .u32 0,.int .u32 0]⟩,.int .i64 2] },{ n:=71,h:=[(65,⟨false,some (0,0),rels rs,none⟩),(66,⟨false,some (0,0),u32s starts,none⟩)],lo:=[],esc:=0,T:=[],k:=2,O:=((((True∧(tt∧4 < 9000000000000000000)∧(rr (Value.slice (some ⟨69,0,none⟩) 4 4)∧True)∧((tt∧tt∧tt∧tt∧tt∧True∧rr [Value.bool (decide ((↑nc:Int) > (4096:Int))),.bool (decide ((↑(lenT data):Int) > (16384:Int))),.bool (decide ((↑rs.length:Int) > (256:Int))),.bool (decide ((↑starts.length:Int) > (4:Int)))])∧True)∧True)∧(!!(decide ((↑nc:Int) > (4096:Int)) || (decide ((↑(lenT data):Int) > (16384:Int)) || (decide ((↑rs.length:Int) > (256:Int)) || (decide ((↑starts.length:Int) > (4:Int)) || false))))) = false)∧(tt∧9 < 9000000000000000000)∧(rr (Value.slice (some ⟨70,0,none⟩) 9 9)∧True)∧((tt∧tt∧tt∧tt∧tt∧True∧rr [Value.bool (decide (pages < (16:Int))),.bool (decide (pages > (1024:Int))),.bool (decide (stack < (256:Int))),.bool (decide (stack > (4096:Int))),.bool (stack.tmod (256:Int) != (0:Int)),.bool (decide (types < (0:Int))),.bool (decide (types > (2048:Int))),.bool ((↑nc:Int) == (0:Int)),.bool ((↑starts.length:Int) == (0:Int))])∧True)∧True)∧(!!(decide (pages < (16:Int)) || (decide (pages > (1024:Int)) || (decide (stack < (256:Int)) || (decide (stack > (4096:Int)) || (stack.tmod (256:Int) != (0:Int) || (decide (types < (0:Int)) || (decide (types > (2048:Int)) || ((↑nc:Int) == (0:Int) || ((↑starts.length:Int) == (0:Int) || false)))))))))) = false)∧(rr (Value.slice (some ⟨66,0,none⟩) starts.length 9223372036854775874)∧rr (Value.func (Fn.func 25) { toList:=[] } { toList:=[Value.pointer (some ⟨67,0,none⟩)] })∧rr (Value.int .i64 (↑starts.length))∧rr (Value.int .i64 0)∧True)∧((tt∧tt∧True∧rr (u32s starts))∧(tt∧tt∧True∧rr [Value.int .i64 pages,.int .i64 stack,.int .i64 types,.slice (some ⟨64,0,none⟩) nc 9223372036854775872,.string ⟨⟨data⟩⟩,.slice (some ⟨65,0,none⟩) rs.length 9223372036854775873,.slice (some ⟨66,0,none⟩) starts.length 9223372036854775874])∧True)∧True∧True : St }):=by kernel_rfl
theorem lay_big (pages stack types : Int) (nc : Nat) (data : List UInt8) (rs : List Rl) (starts : List Nat) (hl : starts.length < 9000000000000000000) (hx : ∀ (x : Nat),x ∈ starts → x < 4294967296) (hn : ∀ (i : Nat),i < starts.length → starts.getD i 0 < nc) : evF Try.prog (baseC 3 selL) (lpOf [stEntN pages stack types nc rs.length data starts hl hx hn]) 100 10 10 [imgV pages stack types nc rs.length starts.length data] (layS rs starts [(0,false),(1,false),(2,false),(3,true)]) = some (Value.tuple { toList:=[Value.agg ⟨[.int .u32 0,.int .u32 0,.int .u32 0,.int .u32 0,.int .u32 0,.int .u32 0,.int .u32 0,.int .u32 0]⟩,.int .i64 13] },{ n:=72,h:=[(65,⟨false,some (0,0),rels rs,none⟩),(66,⟨false,some (0,0),u32s starts,none⟩)],lo:=[],esc:=0,T:=[],k:=4,O:=(((((((True∧(tt∧4 < 9000000000000000000)∧(rr (Value.slice (some ⟨69,0,none⟩) 4 4)∧True)∧((tt∧tt∧tt∧tt∧tt∧True∧rr [Value.bool (decide ((↑nc:Int) > (4096:Int))),.bool (decide ((↑(lenT data):Int) > (16384:Int))),.bool (decide ((↑rs.length:Int) > (256:Int))),.bool (decide ((↑starts.length:Int) > (4:Int)))])∧True)∧True)∧(!!(decide ((↑nc:Int) > (4096:Int)) || (decide ((↑(lenT data):Int) > (16384:Int)) || (decide ((↑rs.length:Int) > (256:Int)) || (decide ((↑starts.length:Int) > (4:Int)) || false))))) = false)∧(tt∧9 < 9000000000000000000)∧(rr (Value.slice (some ⟨70,0,none⟩) 9 9)∧True)∧((tt∧tt∧tt∧tt∧tt∧True∧rr [Value.bool (decide (pages < (16:Int))),.bool (decide (pages > (1024:Int))),.bool (decide (stack < (256:Int))),.bool (decide (stack > (4096:Int))),.bool (stack.tmod (256:Int) != (0:Int)),.bool (decide (types < (0:Int))),.bool (decide (types > (2048:Int))),.bool ((↑nc:Int) == (0:Int)),.bool ((↑starts.length:Int) == (0:Int))])∧True)∧True)∧(!!(decide (pages < (16:Int)) || (decide (pages > (1024:Int)) || (decide (stack < (256:Int)) || (decide (stack > (4096:Int)) || (stack.tmod (256:Int) != (0:Int) || (decide (types < (0:Int)) || (decide (types > (2048:Int)) || ((↑nc:Int) == (0:Int) || ((↑starts.length:Int) == (0:Int) || false)))))))))) = false)∧(rr (Value.slice (some ⟨66,0,none⟩) starts.length 9223372036854775874)∧rr (Value.func (Fn.func 25) { toList:=[] } { toList:=[Value.pointer (some ⟨67,0,none⟩)] })∧rr (Value.int .i64 (↑starts.length))∧rr (Value.int .i64 0)∧True)∧((tt∧tt∧True∧rr (u32s starts))∧(tt∧tt∧True∧rr [Value.int .i64 pages,.int .i64 stack,.int .i64 types,.slice (some ⟨64,0,none⟩) nc 9223372036854775872,.string ⟨⟨data⟩⟩,.slice (some ⟨65,0,none⟩) rs.length 9223372036854775873,.slice (some ⟨66,0,none⟩) starts.length 9223372036854775874])∧True)∧True∧True)∧rr false)∧layOk pages stack nc starts.length data.length∧(rr (Value.agg ⟨[.int .i64 pages,.int .i64 stack,.int .i64 types,.slice (some ⟨64,0,none⟩) nc 9223372036854775872,.string ⟨⟨data⟩⟩,.slice (some ⟨65,0,none⟩) rs.length 9223372036854775873,.slice (some ⟨66,0,none⟩) starts.length 9223372036854775874]⟩)∧True)∧True∧True)∧(!!layBig pages stack nc starts.length data.length) = true : St }):=by kernel_rfl
theorem lay_bad (pages stack types : Int) (nc : Nat) (data : List UInt8) (rs : List Rl) (starts : List Nat) (hl : starts.length < 9000000000000000000) (hx : ∀ (x : Nat),x ∈ starts → x < 4294967296) (hn : ∀ (i : Nat),i < starts.length → starts.getD i 0 < nc) (hm : rs.length ≤ 100000) (ha : (0 : Int) ≤ (0 : Int)) (hc : (0 : Int) ≤ pk (layBig pages stack nc starts.length data.length) (r256 (4 * nc))) (hr : ∀ (i : Nat),i < rs.length → rightOk nc data.length (Int.toNat (0 : Int)) (pk (layBig pages stack nc starts.length data.length) (r256 (4 * nc))).toNat (rl0 rs i)) (j : Nat) (hj : j < rs.length) (hv : relRight types nc data.length (Int.toNat (0 : Int)) (pk (layBig pages stack nc starts.length data.length) (r256 (4 * nc))).toNat (rl0 rs j) (behindN rs j) = false) (hn2 : ∀ (i : Nat),i < j → relRight types nc data.length (Int.toNat (0 : Int)) (pk (layBig pages stack nc starts.length data.length) (r256 (4 * nc))).toNat (rl0 rs i) (behindN rs i) = true) : evF Try.prog (baseC 3 selL) (lpOf [stEntN pages stack types nc rs.length data starts hl hx hn,relEntF pages stack types nc starts.length data rs (0:Int) (pk (layBig pages stack nc starts.length data.length) (r256 (4 * nc))) (pk (layBig pages stack nc starts.length data.length) (r256 (4 * nc))) (pk (layBig pages stack nc starts.length data.length) (r256 data.length)) (pk (layBig pages stack nc starts.length data.length) (r256 (4 * nc)+r256 data.length)) (pk (layBig pages stack nc starts.length data.length) (stack.toNat * starts.length)) (pk (layBig pages stack nc starts.length data.length) (layFrom stack nc starts.length data.length)) (pk (layBig pages stack nc starts.length data.length) (pages.toNat * 256 - layFrom stack nc starts.length data.length)) j hj hm ha hc hr hv hn2]) 100 10 10 [imgV pages stack types nc rs.length starts.length data] (layS rs starts [(0,false),(1,false),(2,false),(3,false)]) = some (Value.tuple { toList:=[Value.agg ⟨[.int .u32 0,.int .u32 0,.int .u32 0,.int .u32 0,.int .u32 0,.int .u32 0,.int .u32 0,.int .u32 0]⟩,.int .i64 2] },{ n:=72,h:=[(65,⟨false,some (0,0),rels rs,none⟩),(66,⟨false,some (0,0),u32s starts,none⟩)],lo:=[],esc:=0,T:=[],k:=4,O:=((((((((True∧(tt∧4 < 9000000000000000000)∧(rr (Value.slice (some ⟨69,0,none⟩) 4 4)∧True)∧((tt∧tt∧tt∧tt∧tt∧True∧rr [Value.bool (decide ((↑nc:Int) > (4096:Int))),.bool (decide ((↑(lenT data):Int) > (16384:Int))),.bool (decide ((↑rs.length:Int) > (256:Int))),.bool (decide ((↑starts.length:Int) > (4:Int)))])∧True)∧True)∧(!!(decide ((↑nc:Int) > (4096:Int)) || (decide ((↑(lenT data):Int) > (16384:Int)) || (decide ((↑rs.length:Int) > (256:Int)) || (decide ((↑starts.length:Int) > (4:Int)) || false))))) = false)∧(tt∧9 < 9000000000000000000)∧(rr (Value.slice (some ⟨70,0,none⟩) 9 9)∧True)∧((tt∧tt∧tt∧tt∧tt∧True∧rr [Value.bool (decide (pages < (16:Int))),.bool (decide (pages > (1024:Int))),.bool (decide (stack < (256:Int))),.bool (decide (stack > (4096:Int))),.bool (stack.tmod (256:Int) != (0:Int)),.bool (decide (types < (0:Int))),.bool (decide (types > (2048:Int))),.bool ((↑nc:Int) == (0:Int)),.bool ((↑starts.length:Int) == (0:Int))])∧True)∧True)∧(!!(decide (pages < (16:Int)) || (decide (pages > (1024:Int)) || (decide (stack < (256:Int)) || (decide (stack > (4096:Int)) || (stack.tmod (256:Int) != (0:Int) || (decide (types < (0:Int)) || (decide (types > (2048:Int)) || ((↑nc:Int) == (0:Int) || ((↑starts.length:Int) == (0:Int) || false)))))))))) = false)∧(rr (Value.slice (some ⟨66,0,none⟩) starts.length 9223372036854775874)∧rr (Value.func (Fn.func 25) { toList:=[] } { toList:=[Value.pointer (some ⟨67,0,none⟩)] })∧rr (Value.int .i64 (↑starts.length))∧rr (Value.int .i64 0)∧True)∧((tt∧tt∧True∧rr (u32s starts))∧(tt∧tt∧True∧rr [Value.int .i64 pages,.int .i64 stack,.int .i64 types,.slice (some ⟨64,0,none⟩) nc 9223372036854775872,.string ⟨⟨data⟩⟩,.slice (some ⟨65,0,none⟩) rs.length 9223372036854775873,.slice (some ⟨66,0,none⟩) starts.length 9223372036854775874])∧True)∧True∧True)∧rr false)∧layOk pages stack nc starts.length data.length∧(rr (Value.agg ⟨[.int .i64 pages,.int .i64 stack,.int .i64 types,.slice (some ⟨64,0,none⟩) nc 9223372036854775872,.string ⟨⟨data⟩⟩,.slice (some ⟨65,0,none⟩) rs.length 9223372036854775873,.slice (some ⟨66,0,none⟩) starts.length 9223372036854775874]⟩)∧True)∧True∧True)∧(!!layBig pages stack nc starts.length data.length) = false)∧(rr (Value.pointer (some ⟨67,0,none⟩))∧rr (Value.pointer (some ⟨68,0,none⟩))∧rr (Value.pointer (some ⟨71,0,none⟩))∧rr (Value.int .u32 0)∧rr (Value.slice (some ⟨65,0,none⟩) rs.length 9223372036854775873)∧rr (Value.int .i64 (↑rs.length))∧rr (Value.int .i64 0)∧True)∧((tt∧tt∧True∧rr (rels rs))∧(tt∧tt∧True∧rr [Value.int .i64 pages,.int .i64 stack,.int .i64 types,.slice (some ⟨64,0,none⟩) nc 9223372036854775872,.string ⟨⟨data⟩⟩,.slice (some ⟨65,0,none⟩) rs.length 9223372036854775873,.slice (some ⟨66,0,none⟩) starts.length 9223372036854775874])∧(tt∧tt∧True∧rr [Value.int .u32 0,.int .u32 0,.int .u32 0,.int .u32 0,.int .u32 0,.int .u32 0,.int .u32 0,.int .u32 0])∧(tt∧tt∧True∧rr [Value.int .u32 0,.int .u32 (pk (layBig pages stack nc starts.length data.length) (r256 (4 * nc))),.int .u32 (pk (layBig pages stack nc starts.length data.length) (r256 (4 * nc))),.int .u32 (pk (layBig pages stack nc starts.length data.length) (r256 data.length)),.int .u32 (pk (layBig pages stack nc starts.length data.length) (r256 (4 * nc)+r256 data.length)),.int .u32 (pk (layBig pages stack nc starts.length data.length) (stack.toNat * starts.length)),.int .u32 (pk (layBig pages stack nc starts.length data.length) (layFrom stack nc starts.length data.length)),.int .u32 (pk (layBig pages stack nc starts.length data.length) (pages.toNat * 256 - layFrom stack nc starts.length data.length))])∧True)∧True∧True : St }):=by kernel_rfl
theorem lay_ok (pages stack types : Int) (nc : Nat) (data : List UInt8) (rs : List Rl) (starts : List Nat) (hl : starts.length < 9000000000000000000) (hx : ∀ (x : Nat),x ∈ starts → x < 4294967296) (hn : ∀ (i : Nat),i < starts.length → starts.getD i 0 < nc) (hm : rs.length ≤ 100000) (ha : (0 : Int) ≤ (0 : Int)) (hc : (0 : Int) ≤ pk (layBig pages stack nc starts.length data.length) (r256 (4 * nc))) (hr : ∀ (i : Nat),i < rs.length → rightOk nc data.length (Int.toNat (0 : Int)) (pk (layBig pages stack nc starts.length data.length) (r256 (4 * nc))).toNat (rl0 rs i)) (hn2 : ∀ (i : Nat),i < rs.length → relRight types nc data.length (Int.toNat (0 : Int)) (pk (layBig pages stack nc starts.length data.length) (r256 (4 * nc))).toNat (rl0 rs i) (behindN rs i) = true) : evF Try.prog (baseC 3 selL) (lpOf [stEntN pages stack types nc rs.length data starts hl hx hn,relEntN pages stack types nc starts.length data rs (0:Int) (pk (layBig pages stack nc starts.length data.length) (r256 (4 * nc))) (pk (layBig pages stack nc starts.length data.length) (r256 (4 * nc))) (pk (layBig pages stack nc starts.length data.length) (r256 data.length)) (pk (layBig pages stack nc starts.length data.length) (r256 (4 * nc)+r256 data.length)) (pk (layBig pages stack nc starts.length data.length) (stack.toNat * starts.length)) (pk (layBig pages stack nc starts.length data.length) (layFrom stack nc starts.length data.length)) (pk (layBig pages stack nc starts.length data.length) (pages.toNat * 256 - layFrom stack nc starts.length data.length)) hm ha hc hr hn2]) 100 10 10 [imgV pages stack types nc rs.length starts.length data] (layS rs starts [(0,false),(1,false),(2,false),(3,false)]) = some (Value.tuple { toList:=[Value.agg ⟨[.int .u32 0,.int .u32 (pk (layBig pages stack nc starts.length data.length) (r256 (4 * nc))),.int .u32 (pk (layBig pages stack nc starts.length data.length) (r256 (4 * nc))),.int .u32 (pk (layBig pages stack nc starts.length data.length) (r256 data.length)),.int .u32 (pk (layBig pages stack nc starts.length data.length) (r256 (4 * nc)+r256 data.length)),.int .u32 (pk (layBig pages stack nc starts.length data.length) (stack.toNat * starts.length)),.int .u32 (pk (layBig pages stack nc starts.length data.length) (layFrom stack nc starts.length data.length)),.int .u32 (pk (layBig pages stack nc starts.length data.length) (pages.toNat * 256 - layFrom stack nc starts.length data.length))]⟩,.int .i64 0] },{ n:=72,h:=[(65,⟨false,some (0,0),rels rs,none⟩),(66,⟨false,some (0,0),u32s starts,none⟩)],lo:=[],esc:=0,T:=[],k:=4,O:=((((((((True∧(tt∧4 < 9000000000000000000)∧(rr (Value.slice (some ⟨69,0,none⟩) 4 4)∧True)∧((tt∧tt∧tt∧tt∧tt∧True∧rr [Value.bool (decide ((↑nc:Int) > (4096:Int))),.bool (decide ((↑(lenT data):Int) > (16384:Int))),.bool (decide ((↑rs.length:Int) > (256:Int))),.bool (decide ((↑starts.length:Int) > (4:Int)))])∧True)∧True)∧(!!(decide ((↑nc:Int) > (4096:Int)) || (decide ((↑(lenT data):Int) > (16384:Int)) || (decide ((↑rs.length:Int) > (256:Int)) || (decide ((↑starts.length:Int) > (4:Int)) || false))))) = false)∧(tt∧9 < 9000000000000000000)∧(rr (Value.slice (some ⟨70,0,none⟩) 9 9)∧True)∧((tt∧tt∧tt∧tt∧tt∧True∧rr [Value.bool (decide (pages < (16:Int))),.bool (decide (pages > (1024:Int))),.bool (decide (stack < (256:Int))),.bool (decide (stack > (4096:Int))),.bool (stack.tmod (256:Int) != (0:Int)),.bool (decide (types < (0:Int))),.bool (decide (types > (2048:Int))),.bool ((↑nc:Int) == (0:Int)),.bool ((↑starts.length:Int) == (0:Int))])∧True)∧True)∧(!!(decide (pages < (16:Int)) || (decide (pages > (1024:Int)) || (decide (stack < (256:Int)) || (decide (stack > (4096:Int)) || (stack.tmod (256:Int) != (0:Int) || (decide (types < (0:Int)) || (decide (types > (2048:Int)) || ((↑nc:Int) == (0:Int) || ((↑starts.length:Int) == (0:Int) || false)))))))))) = false)∧(rr (Value.slice (some ⟨66,0,none⟩) starts.length 9223372036854775874)∧rr (Value.func (Fn.func 25) { toList:=[] } { toList:=[Value.pointer (some ⟨67,0,none⟩)] })∧rr (Value.int .i64 (↑starts.length))∧rr (Value.int .i64 0)∧True)∧((tt∧tt∧True∧rr (u32s starts))∧(tt∧tt∧True∧rr [Value.int .i64 pages,.int .i64 stack,.int .i64 types,.slice (some ⟨64,0,none⟩) nc 9223372036854775872,.string ⟨⟨data⟩⟩,.slice (some ⟨65,0,none⟩) rs.length 9223372036854775873,.slice (some ⟨66,0,none⟩) starts.length 9223372036854775874])∧True)∧True∧True)∧rr false)∧layOk pages stack nc starts.length data.length∧(rr (Value.agg ⟨[.int .i64 pages,.int .i64 stack,.int .i64 types,.slice (some ⟨64,0,none⟩) nc 9223372036854775872,.string ⟨⟨data⟩⟩,.slice (some ⟨65,0,none⟩) rs.length 9223372036854775873,.slice (some ⟨66,0,none⟩) starts.length 9223372036854775874]⟩)∧True)∧True∧True)∧(!!layBig pages stack nc starts.length data.length) = false)∧(rr (Value.pointer (some ⟨67,0,none⟩))∧rr (Value.pointer (some ⟨68,0,none⟩))∧rr (Value.pointer (some ⟨71,0,none⟩))∧rr (Value.int .u32 0)∧rr (Value.slice (some ⟨65,0,none⟩) rs.length 9223372036854775873)∧rr (Value.int .i64 (↑rs.length))∧rr (Value.int .i64 0)∧True)∧((tt∧tt∧True∧rr (rels rs))∧(tt∧tt∧True∧rr [Value.int .i64 pages,.int .i64 stack,.int .i64 types,.slice (some ⟨64,0,none⟩) nc 9223372036854775872,.string ⟨⟨data⟩⟩,.slice (some ⟨65,0,none⟩) rs.length 9223372036854775873,.slice (some ⟨66,0,none⟩) starts.length 9223372036854775874])∧(tt∧tt∧True∧rr [Value.int .u32 0,.int .u32 0,.int .u32 0,.int .u32 0,.int .u32 0,.int .u32 0,.int .u32 0,.int .u32 0])∧(tt∧tt∧True∧rr [Value.int .u32 0,.int .u32 (pk (layBig pages stack nc starts.length data.length) (r256 (4 * nc))),.int .u32 (pk (layBig pages stack nc starts.length data.length) (r256 (4 * nc))),.int .u32 (pk (layBig pages stack nc starts.length data.length) (r256 data.length)),.int .u32 (pk (layBig pages stack nc starts.length data.length) (r256 (4 * nc)+r256 data.length)),.int .u32 (pk (layBig pages stack nc starts.length data.length) (stack.toNat * starts.length)),.int .u32 (pk (layBig pages stack nc starts.length data.length) (layFrom stack nc starts.length data.length)),.int .u32 (pk (layBig pages stack nc starts.length data.length) (pages.toNat * 256 - layFrom stack nc starts.length data.length))])∧True)∧True∧True : St }):=by kernel_rfl
end Go.Proofs.Ytdljpnebpoaeiaa
namespace Go.Proofs.Ytdljpnebpoaeiaa
open Go.RowKit
open Sy
def isLong (nc len nr ns : Nat) : Bool:=decide ((nc : Int) > 4096) || (decide ((len : Int) > 16384) || (decide ((nr : Int) > 256) || (decide ((ns : Int) > 4) || false)))
def isArg (pages stack types : Int) (nc ns : Nat) : Bool:=decide (pages < 16) || (decide (pages > 1024) || (decide (stack < 256) || (decide (stack > 4096) || (stack.tmod 256 != 0 || (decide (types < 0) || (decide (types > 2048) || ((nc : Int) == 0 || ((ns : Int) == 0 || false))))))))
def isFar (nc : Nat) (starts : List Nat) : Bool:=(List.range starts.length).any fun i => decide (nc ≤ starts.getD i 0)
def relGood (types : Int) (nc len : Nat) (rs : List Rl) (i : Nat) : Bool:=relRight types nc len 0 (r256 (4 * nc)) (rl0 rs i) (behindN rs i)
def isBad (types : Int) (nc len : Nat) (rs : List Rl) : Bool:=(List.range rs.length).any fun i => !relGood types nc len rs i
def errOf (pages stack types : Int) (nc : Nat) (data : List UInt8) (rs : List Rl) (starts : List Nat) : Nat :=
 bif isLong nc data.length rs.length starts.length then 3
 else bif isArg pages stack types nc starts.length then 2
 else bif isFar nc starts then 2
 else bif layBig pages stack nc starts.length data.length then 13
 else bif isBad types nc data.length rs then 2 else 0
def pe (e : Nat) (x : Nat) : Int:=bif Nat.beq e 0 then (x : Int) else 0
def layV (pages stack types : Int) (nc : Nat) (data : List UInt8) (rs : List Rl) (starts : List Nat) : Value :=
 .agg ⟨[.int .u32 0,.int .u32 (pe (errOf pages stack types nc data rs starts) (r256 (4 * nc))),.int .u32 (pe (errOf pages stack types nc data rs starts) (r256 (4 * nc))),.int .u32 (pe (errOf pages stack types nc data rs starts) (r256 data.length)),.int .u32 (pe (errOf pages stack types nc data rs starts) (r256 (4 * nc) + r256 data.length)),.int .u32 (pe (errOf pages stack types nc data rs starts) (stack.toNat * starts.length)),.int .u32 (pe (errOf pages stack types nc data rs starts) (layFrom stack nc starts.length data.length)),.int .u32 (pe (errOf pages stack types nc data rs starts) (pages.toNat * 256 - layFrom stack nc starts.length data.length))]⟩
def layRes (pages stack types : Int) (nc : Nat) (data : List UInt8) (rs : List Rl) (starts : List Nat) : Value:=.tuple ⟨[layV pages stack types nc data rs starts,.int .i64 (errOf pages stack types nc data rs starts : Nat)]⟩
def imH (rs : List Rl) (starts : List Nat) : Sy.Heap:=[(65,⟨false,some (0,0),rels rs,none⟩),(66,⟨false,some (0,0),u32s starts,none⟩)]
def imC (pages stack types : Int) (nc : Nat) (data : List UInt8) (rs : List Rl) (starts : List Nat) (v : Value) : Con:=⟨[imgV pages stack types nc rs.length starts.length data],67,imH rs starts,[],v,67,imH rs starts,[]⟩
structure ImOk (rs : List Rl) (starts : List Nat) : Prop where
 rels : ∀ r ∈ rs,RlOk r
 nums : ∀ x ∈ starts,x < 4294967296
 len : starts.length < 9000000000000000000
theorem first_of (p : Nat → Bool) : ∀ n,(List.range n).any p = true → ∃ j,j < n ∧ p j = true ∧ ∀ i,i < j → p i = false
 | 0,h => by simp at h
 | n + 1,h => by
  by_cases h1 : (List.range n).any p = true
  ·obtain ⟨j,h2,h3,h4⟩:=first_of p n h1
   exact ⟨j,by omega,h3,h4⟩
  ·rw [List.range_succ,List.any_append] at h
   simp only [rr, tt, h1,Bool.false_or,List.any_cons,List.any_nil,Bool.or_false] at h
   refine ⟨n,by omega,h,fun i hi => ?_⟩
   simp only [rr, tt, Bool.not_eq_true,List.any_eq_false,List.mem_range] at h1
   simpa using h1 i hi
theorem none_of {p : Nat → Bool} {n : Nat} (h : (List.range n).any p = false) : ∀ i,i < n → p i = false:=by
 intro i hi
 simp only [rr, tt, List.any_eq_false,List.mem_range] at h
 simpa using h i hi
theorem imWf (pages stack types : Int) (nc : Nat) (data : List UInt8) (rs : List Rl) (starts : List Nat) (v : Value) (hv : flat2 v = true) : (imC pages stack types nc data rs starts v).Wf 3 :=
 ⟨by show NG ≤ 67; decide,Nat.le_refl _,⟨⟨rfl,rfl,flat_bnd (rels_flat rs)⟩,⟨rfl,rfl,flat_bnd (u32s_flat starts)⟩,trivial⟩,rfl,rfl,rfl,by kernel_rfl,okV_flat2 hv 1,fun x hx v hv => by
  simp only [rr, tt, imC,imH,List.mem_cons,List.not_mem_nil,or_false] at hx
  rcases hx with rfl | rfl
  ·exact okV_flat0 (rels_flat rs v hv) 3
  ·exact okV_flat0 (u32s_flat starts v hv) 3⟩
theorem im_any {call : CallK} (hcall : SoundCall Try.prog call) {f : FuncId} {pages stack types : Int} {nc : Nat} {data : List UInt8} {rs : List Rl} {starts : List Nat} {T : List (Nat × Bool)} {v v' : Value} {n k' : Nat} {q : Prop}
  (hr : call f [imgV pages stack types nc rs.length starts.length data] (layS rs starts T) = some (v,⟨n,imH rs starts,[],0,[],k',q⟩))
  (hv : v = v') (hf : flat2 v' = true) (hu : isU v' = false) (hq : q) : ConOk Try.prog f 3 (imC pages stack types nc data rs starts v'):=by
 subst hv
 refine conOk_run hcall (imWf pages stack types nc data rs starts v hf) (T:=T) (p:=fun l => Nat.blt l 67) (σ:=id) hr hq ?_
 exact ⟨fun _ _ => rfl,⟨⟨rfl,flat_all (rels_flat rs),rfl,rfl,rfl,trivial,(flat_map (rels_flat rs)).symm⟩,⟨rfl,flat_all (u32s_flat starts),rfl,rfl,rfl,trivial,(flat_map (u32s_flat starts)).symm⟩,trivial⟩,rfl,trivial,⟨okV_flat2 hf 1,(rnV_id 3 v).symm⟩,hu,⟨⟨rfl,rfl,flat_bnd (rels_flat rs)⟩,⟨rfl,rfl,flat_bnd (u32s_flat starts)⟩,trivial⟩,rfl,bnd_flat2 _ hf,fun x _ _ => .inl rfl⟩
theorem arg_lay {pages stack types : Int} {nc ns nr len : Nat} (hl : isLong nc len nr ns = false) (ha : isArg pages stack types nc ns = false) : layOk pages stack nc ns len:=by
 unfold isLong at hl
 unfold isArg at ha
 simp only [rr, tt, Bool.or_eq_false_iff,decide_eq_false_iff_not,bne_eq_false_iff_eq,beq_eq_false_iff_ne,ne_eq] at hl ha
 obtain ⟨l1,l2,l3,l4,_⟩:=hl
 obtain ⟨a1,a2,a3,a4,a5,a6,a7,a8,a9,_⟩:=ha
 have h0 : 0 ≤ stack:=by omega
 obtain ⟨s,rfl⟩:=Int.eq_ofNat_of_zero_le h0
 rw [show (256 : Int) = ((256 : Nat) : Int) from rfl,← Int.ofNat_tmod] at a5
 exact ⟨by omega,by omega,by omega,by omega,by omega,by omega,by omega,by omega⟩
theorem lay_con (pages stack types : Int) (nc : Nat) (data : List UInt8) (rs : List Rl) (starts : List Nat) (hi : ImOk rs starts) : ConOk Try.prog 10 3 (imC pages stack types nc data rs starts (layRes pages stack types nc data rs starts)):=by
 have hb:=baseC_ok (d:=3) selL_ok
 have h4 : (4 : Nat) < 9000000000000000000:=by omega
 have h9 : (9 : Nat) < 9000000000000000000:=by omega
 cases hl : isLong nc data.length rs.length starts.length
 ·have hl' : (!!isLong nc data.length rs.length starts.length) = false:=by rw [hl]; rfl
  cases ha : isArg pages stack types nc starts.length
  ·have ha' : (!!isArg pages stack types nc starts.length) = false:=by rw [ha]; rfl
   have hlay:=arg_lay hl ha
   cases hf : isFar nc starts
   ·have hn : ∀ i,i < starts.length → starts.getD i 0 < nc:=fun i hi => by
     have:=none_of hf i hi; simpa using this
    cases hg : layBig pages stack nc starts.length data.length
    ·have hg' : (!!layBig pages stack nc starts.length data.length) = false:=by rw [hg]; rfl
     have hm : rs.length ≤ 100000:=by
      unfold isLong at hl; simp only [rr, tt, Bool.or_eq_false_iff,decide_eq_false_iff_not] at hl; omega
     have hpk : pk (layBig pages stack nc starts.length data.length) (r256 (4 * nc)) = ((r256 (4 * nc) : Nat) : Int):=by rw [hg]; rfl
     have hc : 0 ≤ pk (layBig pages stack nc starts.length data.length) (r256 (4 * nc)):=by rw [hpk]; omega
     have hct : (pk (layBig pages stack nc starts.length data.length) (r256 (4 * nc))).toNat = r256 (4 * nc):=by rw [hpk]; rfl
     have hro : ∀ i,i < rs.length → rightOk nc data.length (0 : Int).toNat (pk (layBig pages stack nc starts.length data.length) (r256 (4 * nc))).toNat (rl0 rs i):=fun i hir => by
      rw [hct]
      have:=r256_le (4 * nc)
      refine ⟨?_,hlay.2.2.2.2.2.1,hlay.2.2.2.2.2.2.2,by simp,by have:=hlay.2.2.2.2.2.1; omega⟩
      unfold rl0; rw [List.getD_eq_getElem?_getD,List.getElem?_eq_getElem hir]; exact hi.rels _ (List.getElem_mem hir)
     cases hd : isBad types nc data.length rs
     ·have he : errOf pages stack types nc data rs starts = 0:=by unfold errOf; rw [hl,ha,hf,hg,hd]; rfl
      have hn2 : ∀ i,i < rs.length → relRight types nc data.length (0 : Int).toNat (pk (layBig pages stack nc starts.length data.length) (r256 (4 * nc))).toNat (rl0 rs i) (behindN rs i) = true:=fun i hir => by
       rw [hct]; have:=none_of hd i hir; simpa [relGood] using this
      have hh:=lay_ok pages stack types nc data rs starts hi.len hi.nums hn hm (by omega) hc hro hn2
      rw [lenT_eq] at hh
      refine im_any (run_ok i_names hb (lpOf_ok _) 10) hh ?_ rfl rfl ?_
      ·unfold layRes layV; rw [he,hg]; rfl
      ·repeat' (with_reducible apply And.intro)
       all_goals first | exact h4 | exact h9 | exact hl' | exact ha' | exact hg' | exact hlay | with_reducible trivial | with_reducible rfl
     ·obtain ⟨j,hj,hv,hn2⟩:=first_of _ _ hd
      have he : errOf pages stack types nc data rs starts = 2:=by unfold errOf; rw [hl,ha,hf,hg,hd]; rfl
      have hv' : relRight types nc data.length (0 : Int).toNat (pk (layBig pages stack nc starts.length data.length) (r256 (4 * nc))).toNat (rl0 rs j) (behindN rs j) = false:=by
       rw [hct]; simpa [relGood] using hv
      have hn2' : ∀ i,i < j → relRight types nc data.length (0 : Int).toNat (pk (layBig pages stack nc starts.length data.length) (r256 (4 * nc))).toNat (rl0 rs i) (behindN rs i) = true:=fun i hij => by
       rw [hct]; have:=hn2 i hij; simpa [relGood] using this
      have hh:=lay_bad pages stack types nc data rs starts hi.len hi.nums hn hm (by omega) hc hro j hj hv' hn2'
      rw [lenT_eq] at hh
      refine im_any (run_ok i_names hb (lpOf_ok _) 10) hh ?_ rfl rfl ?_
      ·unfold layRes layV; rw [he]; rfl
      ·repeat' (with_reducible apply And.intro)
       all_goals first | exact h4 | exact h9 | exact hl' | exact ha' | exact hg' | exact hlay | with_reducible trivial | with_reducible rfl
    ·have hg' : (!!layBig pages stack nc starts.length data.length) = true:=by rw [hg]; rfl
     have he : errOf pages stack types nc data rs starts = 13:=by unfold errOf; rw [hl,ha,hf,hg]; rfl
     have hh:=lay_big pages stack types nc data rs starts hi.len hi.nums hn
     rw [lenT_eq] at hh
     refine im_any (run_ok i_names hb (lpOf_ok _) 10) hh ?_ rfl rfl ?_
     ·unfold layRes layV; rw [he]; rfl
     ·repeat' (with_reducible apply And.intro)
      all_goals first | exact h4 | exact h9 | exact hl' | exact ha' | exact hg' | exact hlay | with_reducible trivial | with_reducible rfl
   ·obtain ⟨j,hj,hv,hn⟩:=first_of _ _ hf
    have he : errOf pages stack types nc data rs starts = 2:=by unfold errOf; rw [hl,ha,hf]; rfl
    have hh:=lay_far pages stack types nc data rs starts j hi.len hi.nums hj (by simpa using hv) (fun i hij => by have:=hn i hij; simpa using this)
    rw [lenT_eq] at hh
    refine im_any (run_ok i_names hb (lpOf_ok _) 10) hh ?_ rfl rfl ?_
    ·unfold layRes layV; rw [he]; rfl
    ·repeat' (with_reducible apply And.intro)
     all_goals first | exact h4 | exact h9 | exact hl' | exact ha' | with_reducible trivial | with_reducible rfl
  ·have ha' : (!!isArg pages stack types nc starts.length) = true:=by rw [ha]; rfl
   have he : errOf pages stack types nc data rs starts = 2:=by unfold errOf; rw [hl,ha]; rfl
   have hh:=lay_arg pages stack types nc data rs starts
   rw [lenT_eq] at hh
   refine im_any (run_ok i_names hb (noLoop_ok _) 10) hh ?_ rfl rfl ?_
   ·unfold layRes layV; rw [he]; rfl
   ·repeat' (with_reducible apply And.intro)
    all_goals first | exact h4 | exact h9 | exact hl' | exact ha' | with_reducible trivial | with_reducible rfl
 ·have hl' : (!!isLong nc data.length rs.length starts.length) = true:=by rw [hl]; rfl
  have he : errOf pages stack types nc data rs starts = 3:=by unfold errOf; rw [hl]; rfl
  have hh:=lay_long pages stack types nc data rs starts
  rw [lenT_eq] at hh
  refine im_any (run_ok i_names hb (noLoop_ok _) 10) hh ?_ rfl rfl ?_
  ·unfold layRes layV; rw [he]; rfl
  ·repeat' (with_reducible apply And.intro)
   all_goals first | exact h4 | exact h9 | exact hl' | with_reducible trivial | with_reducible rfl
end Go.Proofs.Ytdljpnebpoaeiaa
namespace Go.Proofs.Ytdljpnebpoaeiaa
open Go.RowKit
open Sy
def chkV (pages stack types : Int) (nc : Nat) (data : List UInt8) (rs : List Rl) (starts : List Nat) : Value:=.int .i64 (errOf pages stack types nc data rs starts : Nat)
end Go.Proofs.Ytdljpnebpoaeiaa
namespace Go.Proofs.Ytdljpnebpoaeiaa
open Go.RowKit
open Sy
def imD (pages stack types : Int) (nc : Nat) (data : List UInt8) (rs : List Rl) (starts : List Nat) (v : Value) : Con:=⟨[imgV pages stack types nc rs.length starts.length data],67,imH rs starts,[],v,67,[],[]⟩
def selLayAt (rs : List Rl) (starts : List Nat) : SelC:=fun f args _ =>
 match args with
 | [.agg ⟨[.int _ pages,.int _ stack,.int _ types,.slice (some i) nc _,.string ⟨⟨data⟩⟩,.slice (some j) _ _,.slice (some k) _ _]⟩] =>
  bif Nat.beq f 10 then some (imD pages stack types nc data rs starts (layRes pages stack types nc data rs starts),[i.block,j.block,k.block],ImOk rs starts)
  else none
 | _ => none
theorem selLayAt_ok (rs : List Rl) (starts : List Nat) : SelOk Try.prog 3 (selLayAt rs starts):=by
 intro f args s c ρ q h hq
 unfold selLayAt at h
 split at h
 ·obtain ⟨h2,h3⟩:=bif_some h
  have h2:=Nat.eq_of_beq_eq_true h2
  subst h2
  cases h3
  exact (lay_con _ _ _ _ _ rs starts hq).drop
 ·cases h
theorem ichk (pages stack types : Int) (nc : Nat) (data : List UInt8) (rs : List Rl) (starts : List Nat) : evF Try.prog (baseR 3 (selLayAt rs starts) (baseC 3 selK)) noLoop 100 10 14 [imgV pages stack types nc rs.length starts.length data] ⟨67,imH rs starts,[],0,[],0,True⟩ = some (Value.int .i64 (↑(errOf pages stack types nc data rs starts)),{ n:=69,h:=[(65,⟨false,some (0,0),rels rs,none⟩),(66,⟨false,some (0,0),u32s starts,none⟩)],lo:=[],esc:=0,T:=[],k:=0,O:=True∧ImOk rs starts∧(rr (Value.agg ⟨[.int .i64 pages,.int .i64 stack,.int .i64 types,.slice (some ⟨64,0,none⟩) nc 9223372036854775872,.string ⟨⟨data⟩⟩,.slice (some ⟨65,0,none⟩) rs.length 9223372036854775873,.slice (some ⟨66,0,none⟩) starts.length 9223372036854775874]⟩)∧True)∧(((tt∧(rels rs).all (okV (fun l => l.blt 67) 3) = true∧tt∧tt∧tt∧True∧rels rs = List.map (rnV (lift 67 68 [64,65,66]) 3) (rels rs))∧(tt∧(u32s starts).all (okV (fun l => l.blt 67) 3) = true∧tt∧tt∧tt∧True∧u32s starts = List.map (rnV (lift 67 68 [64,65,66]) 3) (u32s starts))∧True)∧tt∧tt)∧True : St }):=by kernel_rfl
theorem own_nnn (pages stack types : Int) (data : List UInt8) (cs : List Nat) (rs : List Rl) (starts : List Nat) : evF Try.prog noBase noLoop 100 10 9 [Value.agg ⟨[.int .i64 pages,.int .i64 stack,.int .i64 types,.slice none 0 0,.string ⟨⟨data⟩⟩,.slice none 0 0,.slice none 0 0]⟩] ⟨67,[],[(64,0),(65,0),(66,0)],0,[],0,True⟩ = some (Value.agg ⟨[.int .i64 pages,.int .i64 stack,.int .i64 types,.slice (some ⟨70,0,none⟩) 0 9223372036854775878,.string ⟨⟨List.take ((if (20000:Int) < (↑(lenT data):Int) then (20000:Int) else (↑(lenT data):Int)).toNat - 0) (List.drop 0 data)⟩⟩,.slice (some ⟨72,0,none⟩) 0 9223372036854775880,.slice (some ⟨74,0,none⟩) 0 9223372036854775882]⟩,{ n:=75,h:=[(74,⟨true,some (74,1),[],none⟩),(72,⟨true,some (72,6),[],none⟩),(70,⟨true,some (70,1),[],none⟩),(68,⟨true,none,[Value.int .i64 pages,.int .i64 stack,.int .i64 types,.slice (some ⟨70,0,none⟩) 0 9223372036854775878,.string ⟨⟨List.take ((if (20000:Int) < (↑(lenT data):Int) then (20000:Int) else (↑(lenT data):Int)).toNat - 0) (List.drop 0 data)⟩⟩,.slice (some ⟨72,0,none⟩) 0 9223372036854775880,.slice (some ⟨74,0,none⟩) 0 9223372036854775882],none⟩),(67,⟨true,none,[Value.int .i64 pages,.int .i64 stack,.int .i64 types,.slice (some ⟨70,0,none⟩) 0 9223372036854775878,.string ⟨⟨List.take ((if (20000:Int) < (↑(lenT data):Int) then (20000:Int) else (↑(lenT data):Int)).toNat - 0) (List.drop 0 data)⟩⟩,.slice (some ⟨72,0,none⟩) 0 9223372036854775880,.slice (some ⟨74,0,none⟩) 0 9223372036854775882],none⟩)],lo:=[(74,0),(72,0),(70,0),(64,0),(65,0),(66,0)],esc:=0,T:=[],k:=0,O:=bif decide ((0:Int) ≤ if (20000:Int) < (↑(lenT data):Int) then (20000:Int) else (↑(lenT data):Int)) && decide ((if (20000:Int) < (↑(lenT data):Int) then (20000:Int) else (↑(lenT data):Int)) ≤ (↑(lenT data):Int)) then True else False : St }):=by kernel_rfl
theorem own_nne (pages stack types : Int) (data : List UInt8) (cs : List Nat) (rs : List Rl) (starts : List Nat) : evF Try.prog noBase noLoop 100 10 9 [Value.agg { toList:=[Value.int .i64 pages,.int .i64 stack,.int .i64 types,.slice none 0 0,.string ⟨⟨data⟩⟩,.slice none 0 0,.slice (some { block:=66,off:=0,spot:=some 66 }) 0 (big+66)] }] ⟨67,[],[(64,0),(65,0),(66,0)],0,[],0,True⟩ = some (Value.agg ⟨[.int .i64 pages,.int .i64 stack,.int .i64 types,.slice (some ⟨70,0,none⟩) 0 9223372036854775878,.string ⟨⟨List.take ((if (20000:Int) < (↑(lenT data):Int) then (20000:Int) else (↑(lenT data):Int)).toNat - 0) (List.drop 0 data)⟩⟩,.slice (some ⟨72,0,none⟩) 0 9223372036854775880,.slice (some ⟨74,0,none⟩) 0 9223372036854775882]⟩,{ n:=75,h:=[(74,⟨true,some (74,1),[],none⟩),(72,⟨true,some (72,6),[],none⟩),(70,⟨true,some (70,1),[],none⟩),(68,⟨true,none,[Value.int .i64 pages,.int .i64 stack,.int .i64 types,.slice (some ⟨70,0,none⟩) 0 9223372036854775878,.string ⟨⟨List.take ((if (20000:Int) < (↑(lenT data):Int) then (20000:Int) else (↑(lenT data):Int)).toNat - 0) (List.drop 0 data)⟩⟩,.slice (some ⟨72,0,none⟩) 0 9223372036854775880,.slice (some ⟨74,0,none⟩) 0 9223372036854775882],none⟩),(67,⟨true,none,[Value.int .i64 pages,.int .i64 stack,.int .i64 types,.slice (some ⟨70,0,none⟩) 0 9223372036854775878,.string ⟨⟨List.take ((if (20000:Int) < (↑(lenT data):Int) then (20000:Int) else (↑(lenT data):Int)).toNat - 0) (List.drop 0 data)⟩⟩,.slice (some ⟨72,0,none⟩) 0 9223372036854775880,.slice (some ⟨74,0,none⟩) 0 9223372036854775882],none⟩)],lo:=[(74,0),(72,0),(70,0),(64,0),(65,0),(66,0)],esc:=0,T:=[],k:=0,O:=bif decide ((0:Int) ≤ if (20000:Int) < (↑(lenT data):Int) then (20000:Int) else (↑(lenT data):Int)) && decide ((if (20000:Int) < (↑(lenT data):Int) then (20000:Int) else (↑(lenT data):Int)) ≤ (↑(lenT data):Int)) then True else False : St }):=by kernel_rfl
theorem own_nnl (pages stack types : Int) (data : List UInt8) (cs : List Nat) (rs : List Rl) (starts : List Nat) : evF Try.prog noBase noLoop 100 10 9 [Value.agg ⟨[.int .i64 pages,.int .i64 stack,.int .i64 types,.slice none 0 0,.string ⟨⟨data⟩⟩,.slice none 0 0,.slice (some ⟨66,0,none⟩) starts.length (big+66)]⟩] ⟨67,[(66,⟨false,some (0,0),u32s starts,none⟩)],[(64,0),(65,0),(66,starts.length)],0,[],0,True⟩ = some (Value.agg ⟨[.int .i64 pages,.int .i64 stack,.int .i64 types,.slice (some ⟨70,0,none⟩) 0 9223372036854775878,.string ⟨⟨List.take ((if (20000:Int) < (↑(lenT data):Int) then (20000:Int) else (↑(lenT data):Int)).toNat - 0) (List.drop 0 data)⟩⟩,.slice (some ⟨72,0,none⟩) 0 9223372036854775880,.slice (some ⟨74,0,none⟩) (0+(if (6:Int) < (↑starts.length:Int) then (6:Int) else (↑starts.length:Int)).toNat) 9223372036854775882]⟩,{ n:=75,h:=[(74,⟨true,some (74,1),List.take ((if (6:Int) < (↑starts.length:Int) then (6:Int) else (↑starts.length:Int)).toNat * 1) (List.drop 0 (u32s starts)),none⟩),(72,⟨true,some (72,6),[],none⟩),(70,⟨true,some (70,1),[],none⟩),(68,⟨true,none,[Value.int .i64 pages,.int .i64 stack,.int .i64 types,.slice (some ⟨70,0,none⟩) 0 9223372036854775878,.string ⟨⟨List.take ((if (20000:Int) < (↑(lenT data):Int) then (20000:Int) else (↑(lenT data):Int)).toNat - 0) (List.drop 0 data)⟩⟩,.slice (some ⟨72,0,none⟩) 0 9223372036854775880,.slice (some ⟨74,0,none⟩) (0+(if (6:Int) < (↑starts.length:Int) then (6:Int) else (↑starts.length:Int)).toNat) 9223372036854775882],none⟩),(67,⟨true,none,[Value.int .i64 pages,.int .i64 stack,.int .i64 types,.slice (some ⟨70,0,none⟩) 0 9223372036854775878,.string ⟨⟨List.take ((if (20000:Int) < (↑(lenT data):Int) then (20000:Int) else (↑(lenT data):Int)).toNat - 0) (List.drop 0 data)⟩⟩,.slice (some ⟨72,0,none⟩) 0 9223372036854775880,.slice (some ⟨74,0,none⟩) (0+(if (6:Int) < (↑starts.length:Int) then (6:Int) else (↑starts.length:Int)).toNat) 9223372036854775882],none⟩),(66,⟨false,some (0,0),u32s starts,none⟩)],lo:=[(74,0+(if (6:Int) < (↑starts.length:Int) then (6:Int) else (↑starts.length:Int)).toNat),(72,0),(70,0),(64,0),(65,0),(66,starts.length)],esc:=0,T:=[],k:=0,O:=bif (lenT (List.take ((if (6:Int) < (↑starts.length:Int) then (6:Int) else (↑starts.length:Int)).toNat * 1) (List.drop 0 (u32s starts)))).beq ((if (6:Int) < (↑starts.length:Int) then (6:Int) else (↑starts.length:Int)).toNat * 1) && oneC (List.take ((if (6:Int) < (↑starts.length:Int) then (6:Int) else (↑starts.length:Int)).toNat * 1) (List.drop 0 (u32s starts))) && ((0+(if (6:Int) < (↑starts.length:Int) then (6:Int) else (↑starts.length:Int)).toNat) * 4).ble 1099511627776 && (0+(if (6:Int) < (↑starts.length:Int) then (6:Int) else (↑starts.length:Int)).toNat).blt 4611686018427387904 then bif hasN (0+(if (6:Int) < (↑starts.length:Int) then (6:Int) else (↑starts.length:Int)).toNat * 1) (u32s starts) then bif decide ((0:Int) ≤ if (6:Int) < (↑starts.length:Int) then (6:Int) else (↑starts.length:Int)) && decide ((if (6:Int) < (↑starts.length:Int) then (6:Int) else (↑starts.length:Int)) ≤ (↑starts.length:Int)) then bif decide ((0:Int) ≤ if (20000:Int) < (↑(lenT data):Int) then (20000:Int) else (↑(lenT data):Int)) && decide ((if (20000:Int) < (↑(lenT data):Int) then (20000:Int) else (↑(lenT data):Int)) ≤ (↑(lenT data):Int)) then True else False else False else False else False : St }):=by kernel_rfl
theorem own_nen (pages stack types : Int) (data : List UInt8) (cs : List Nat) (rs : List Rl) (starts : List Nat) : evF Try.prog noBase noLoop 100 10 9 [Value.agg { toList:=[Value.int .i64 pages,.int .i64 stack,.int .i64 types,.slice none 0 0,.string ⟨⟨data⟩⟩,.slice (some { block:=65,off:=0,spot:=some 65 }) 0 (big+65),.slice none 0 0] }] ⟨67,[],[(64,0),(65,0),(66,0)],0,[],0,True⟩ = some (Value.agg ⟨[.int .i64 pages,.int .i64 stack,.int .i64 types,.slice (some ⟨70,0,none⟩) 0 9223372036854775878,.string ⟨⟨List.take ((if (20000:Int) < (↑(lenT data):Int) then (20000:Int) else (↑(lenT data):Int)).toNat - 0) (List.drop 0 data)⟩⟩,.slice (some ⟨72,0,none⟩) 0 9223372036854775880,.slice (some ⟨74,0,none⟩) 0 9223372036854775882]⟩,{ n:=75,h:=[(74,⟨true,some (74,1),[],none⟩),(72,⟨true,some (72,6),[],none⟩),(70,⟨true,some (70,1),[],none⟩),(68,⟨true,none,[Value.int .i64 pages,.int .i64 stack,.int .i64 types,.slice (some ⟨70,0,none⟩) 0 9223372036854775878,.string ⟨⟨List.take ((if (20000:Int) < (↑(lenT data):Int) then (20000:Int) else (↑(lenT data):Int)).toNat - 0) (List.drop 0 data)⟩⟩,.slice (some ⟨72,0,none⟩) 0 9223372036854775880,.slice (some ⟨74,0,none⟩) 0 9223372036854775882],none⟩),(67,⟨true,none,[Value.int .i64 pages,.int .i64 stack,.int .i64 types,.slice (some ⟨70,0,none⟩) 0 9223372036854775878,.string ⟨⟨List.take ((if (20000:Int) < (↑(lenT data):Int) then (20000:Int) else (↑(lenT data):Int)).toNat - 0) (List.drop 0 data)⟩⟩,.slice (some ⟨72,0,none⟩) 0 9223372036854775880,.slice (some ⟨74,0,none⟩) 0 9223372036854775882],none⟩)],lo:=[(74,0),(72,0),(70,0),(64,0),(65,0),(66,0)],esc:=0,T:=[],k:=0,O:=bif decide ((0:Int) ≤ if (20000:Int) < (↑(lenT data):Int) then (20000:Int) else (↑(lenT data):Int)) && decide ((if (20000:Int) < (↑(lenT data):Int) then (20000:Int) else (↑(lenT data):Int)) ≤ (↑(lenT data):Int)) then True else False : St }):=by kernel_rfl
theorem own_nee (pages stack types : Int) (data : List UInt8) (cs : List Nat) (rs : List Rl) (starts : List Nat) : evF Try.prog noBase noLoop 100 10 9 [Value.agg { toList:=[Value.int .i64 pages,.int .i64 stack,.int .i64 types,.slice none 0 0,.string ⟨⟨data⟩⟩,.slice (some { block:=65,off:=0,spot:=some 65 }) 0 (big+65),.slice (some { block:=66,off:=0,spot:=some 66 }) 0 (big+66)] }] ⟨67,[],[(64,0),(65,0),(66,0)],0,[],0,True⟩ = some (Value.agg ⟨[.int .i64 pages,.int .i64 stack,.int .i64 types,.slice (some ⟨70,0,none⟩) 0 9223372036854775878,.string ⟨⟨List.take ((if (20000:Int) < (↑(lenT data):Int) then (20000:Int) else (↑(lenT data):Int)).toNat - 0) (List.drop 0 data)⟩⟩,.slice (some ⟨72,0,none⟩) 0 9223372036854775880,.slice (some ⟨74,0,none⟩) 0 9223372036854775882]⟩,{ n:=75,h:=[(74,⟨true,some (74,1),[],none⟩),(72,⟨true,some (72,6),[],none⟩),(70,⟨true,some (70,1),[],none⟩),(68,⟨true,none,[Value.int .i64 pages,.int .i64 stack,.int .i64 types,.slice (some ⟨70,0,none⟩) 0 9223372036854775878,.string ⟨⟨List.take ((if (20000:Int) < (↑(lenT data):Int) then (20000:Int) else (↑(lenT data):Int)).toNat - 0) (List.drop 0 data)⟩⟩,.slice (some ⟨72,0,none⟩) 0 9223372036854775880,.slice (some ⟨74,0,none⟩) 0 9223372036854775882],none⟩),(67,⟨true,none,[Value.int .i64 pages,.int .i64 stack,.int .i64 types,.slice (some ⟨70,0,none⟩) 0 9223372036854775878,.string ⟨⟨List.take ((if (20000:Int) < (↑(lenT data):Int) then (20000:Int) else (↑(lenT data):Int)).toNat - 0) (List.drop 0 data)⟩⟩,.slice (some ⟨72,0,none⟩) 0 9223372036854775880,.slice (some ⟨74,0,none⟩) 0 9223372036854775882],none⟩)],lo:=[(74,0),(72,0),(70,0),(64,0),(65,0),(66,0)],esc:=0,T:=[],k:=0,O:=bif decide ((0:Int) ≤ if (20000:Int) < (↑(lenT data):Int) then (20000:Int) else (↑(lenT data):Int)) && decide ((if (20000:Int) < (↑(lenT data):Int) then (20000:Int) else (↑(lenT data):Int)) ≤ (↑(lenT data):Int)) then True else False : St }):=by kernel_rfl
theorem own_nel (pages stack types : Int) (data : List UInt8) (cs : List Nat) (rs : List Rl) (starts : List Nat) : evF Try.prog noBase noLoop 100 10 9 [Value.agg { toList:=[Value.int .i64 pages,.int .i64 stack,.int .i64 types,.slice none 0 0,.string ⟨⟨data⟩⟩,.slice (some { block:=65,off:=0,spot:=some 65 }) 0 (big+65),.slice (some ⟨66,0,none⟩) starts.length (big+66)] }] ⟨67,[(66,⟨false,some (0,0),u32s starts,none⟩)],[(64,0),(65,0),(66,starts.length)],0,[],0,True⟩ = some (Value.agg ⟨[.int .i64 pages,.int .i64 stack,.int .i64 types,.slice (some ⟨70,0,none⟩) 0 9223372036854775878,.string ⟨⟨List.take ((if (20000:Int) < (↑(lenT data):Int) then (20000:Int) else (↑(lenT data):Int)).toNat - 0) (List.drop 0 data)⟩⟩,.slice (some ⟨72,0,none⟩) 0 9223372036854775880,.slice (some ⟨74,0,none⟩) (0+(if (6:Int) < (↑starts.length:Int) then (6:Int) else (↑starts.length:Int)).toNat) 9223372036854775882]⟩,{ n:=75,h:=[(74,⟨true,some (74,1),List.take ((if (6:Int) < (↑starts.length:Int) then (6:Int) else (↑starts.length:Int)).toNat * 1) (List.drop 0 (u32s starts)),none⟩),(72,⟨true,some (72,6),[],none⟩),(70,⟨true,some (70,1),[],none⟩),(68,⟨true,none,[Value.int .i64 pages,.int .i64 stack,.int .i64 types,.slice (some ⟨70,0,none⟩) 0 9223372036854775878,.string ⟨⟨List.take ((if (20000:Int) < (↑(lenT data):Int) then (20000:Int) else (↑(lenT data):Int)).toNat - 0) (List.drop 0 data)⟩⟩,.slice (some ⟨72,0,none⟩) 0 9223372036854775880,.slice (some ⟨74,0,none⟩) (0+(if (6:Int) < (↑starts.length:Int) then (6:Int) else (↑starts.length:Int)).toNat) 9223372036854775882],none⟩),(67,⟨true,none,[Value.int .i64 pages,.int .i64 stack,.int .i64 types,.slice (some ⟨70,0,none⟩) 0 9223372036854775878,.string ⟨⟨List.take ((if (20000:Int) < (↑(lenT data):Int) then (20000:Int) else (↑(lenT data):Int)).toNat - 0) (List.drop 0 data)⟩⟩,.slice (some ⟨72,0,none⟩) 0 9223372036854775880,.slice (some ⟨74,0,none⟩) (0+(if (6:Int) < (↑starts.length:Int) then (6:Int) else (↑starts.length:Int)).toNat) 9223372036854775882],none⟩),(66,⟨false,some (0,0),u32s starts,none⟩)],lo:=[(74,0+(if (6:Int) < (↑starts.length:Int) then (6:Int) else (↑starts.length:Int)).toNat),(72,0),(70,0),(64,0),(65,0),(66,starts.length)],esc:=0,T:=[],k:=0,O:=bif (lenT (List.take ((if (6:Int) < (↑starts.length:Int) then (6:Int) else (↑starts.length:Int)).toNat * 1) (List.drop 0 (u32s starts)))).beq ((if (6:Int) < (↑starts.length:Int) then (6:Int) else (↑starts.length:Int)).toNat * 1) && oneC (List.take ((if (6:Int) < (↑starts.length:Int) then (6:Int) else (↑starts.length:Int)).toNat * 1) (List.drop 0 (u32s starts))) && ((0+(if (6:Int) < (↑starts.length:Int) then (6:Int) else (↑starts.length:Int)).toNat) * 4).ble 1099511627776 && (0+(if (6:Int) < (↑starts.length:Int) then (6:Int) else (↑starts.length:Int)).toNat).blt 4611686018427387904 then bif hasN (0+(if (6:Int) < (↑starts.length:Int) then (6:Int) else (↑starts.length:Int)).toNat * 1) (u32s starts) then bif decide ((0:Int) ≤ if (6:Int) < (↑starts.length:Int) then (6:Int) else (↑starts.length:Int)) && decide ((if (6:Int) < (↑starts.length:Int) then (6:Int) else (↑starts.length:Int)) ≤ (↑starts.length:Int)) then bif decide ((0:Int) ≤ if (20000:Int) < (↑(lenT data):Int) then (20000:Int) else (↑(lenT data):Int)) && decide ((if (20000:Int) < (↑(lenT data):Int) then (20000:Int) else (↑(lenT data):Int)) ≤ (↑(lenT data):Int)) then True else False else False else False else False : St }):=by kernel_rfl
theorem own_nln (pages stack types : Int) (data : List UInt8) (cs : List Nat) (rs : List Rl) (starts : List Nat) : evF Try.prog noBase noLoop 100 10 9 [Value.agg ⟨[.int .i64 pages,.int .i64 stack,.int .i64 types,.slice none 0 0,.string ⟨⟨data⟩⟩,.slice (some ⟨65,0,none⟩) rs.length (big+65),.slice none 0 0]⟩] ⟨67,[(65,⟨false,some (0,0),rels rs,none⟩)],[(64,0),(65,rs.length),(66,0)],0,[],0,True⟩ = some (Value.agg ⟨[.int .i64 pages,.int .i64 stack,.int .i64 types,.slice (some ⟨70,0,none⟩) 0 9223372036854775878,.string ⟨⟨List.take ((if (20000:Int) < (↑(lenT data):Int) then (20000:Int) else (↑(lenT data):Int)).toNat - 0) (List.drop 0 data)⟩⟩,.slice (some ⟨72,0,none⟩) (0+(if (300:Int) < (↑rs.length:Int) then (300:Int) else (↑rs.length:Int)).toNat) 9223372036854775880,.slice (some ⟨74,0,none⟩) 0 9223372036854775882]⟩,{ n:=75,h:=[(74,⟨true,some (74,1),[],none⟩),(72,⟨true,some (72,6),List.take ((if (300:Int) < (↑rs.length:Int) then (300:Int) else (↑rs.length:Int)).toNat * 6) (List.drop 0 (rels rs)),none⟩),(70,⟨true,some (70,1),[],none⟩),(68,⟨true,none,[Value.int .i64 pages,.int .i64 stack,.int .i64 types,.slice (some ⟨70,0,none⟩) 0 9223372036854775878,.string ⟨⟨List.take ((if (20000:Int) < (↑(lenT data):Int) then (20000:Int) else (↑(lenT data):Int)).toNat - 0) (List.drop 0 data)⟩⟩,.slice (some ⟨72,0,none⟩) (0+(if (300:Int) < (↑rs.length:Int) then (300:Int) else (↑rs.length:Int)).toNat) 9223372036854775880,.slice (some ⟨74,0,none⟩) 0 9223372036854775882],none⟩),(67,⟨true,none,[Value.int .i64 pages,.int .i64 stack,.int .i64 types,.slice (some ⟨70,0,none⟩) 0 9223372036854775878,.string ⟨⟨List.take ((if (20000:Int) < (↑(lenT data):Int) then (20000:Int) else (↑(lenT data):Int)).toNat - 0) (List.drop 0 data)⟩⟩,.slice (some ⟨72,0,none⟩) (0+(if (300:Int) < (↑rs.length:Int) then (300:Int) else (↑rs.length:Int)).toNat) 9223372036854775880,.slice (some ⟨74,0,none⟩) 0 9223372036854775882],none⟩),(65,⟨false,some (0,0),rels rs,none⟩)],lo:=[(74,0),(72,0+(if (300:Int) < (↑rs.length:Int) then (300:Int) else (↑rs.length:Int)).toNat),(70,0),(64,0),(65,rs.length),(66,0)],esc:=0,T:=[],k:=0,O:=bif (lenT (List.take ((if (300:Int) < (↑rs.length:Int) then (300:Int) else (↑rs.length:Int)).toNat * 6) (List.drop 0 (rels rs)))).beq ((if (300:Int) < (↑rs.length:Int) then (300:Int) else (↑rs.length:Int)).toNat * 6) && oneC (List.take ((if (300:Int) < (↑rs.length:Int) then (300:Int) else (↑rs.length:Int)).toNat * 6) (List.drop 0 (rels rs))) && ((0+(if (300:Int) < (↑rs.length:Int) then (300:Int) else (↑rs.length:Int)).toNat) * 20).ble 1099511627776 && (0+(if (300:Int) < (↑rs.length:Int) then (300:Int) else (↑rs.length:Int)).toNat).blt 4611686018427387904 then bif hasN (0+(if (300:Int) < (↑rs.length:Int) then (300:Int) else (↑rs.length:Int)).toNat * 6) (rels rs) then bif decide ((0:Int) ≤ if (300:Int) < (↑rs.length:Int) then (300:Int) else (↑rs.length:Int)) && decide ((if (300:Int) < (↑rs.length:Int) then (300:Int) else (↑rs.length:Int)) ≤ (↑rs.length:Int)) then bif decide ((0:Int) ≤ if (20000:Int) < (↑(lenT data):Int) then (20000:Int) else (↑(lenT data):Int)) && decide ((if (20000:Int) < (↑(lenT data):Int) then (20000:Int) else (↑(lenT data):Int)) ≤ (↑(lenT data):Int)) then True else False else False else False else False : St }):=by kernel_rfl
theorem own_nle (pages stack types : Int) (data : List UInt8) (cs : List Nat) (rs : List Rl) (starts : List Nat) : evF Try.prog noBase noLoop 100 10 9 [Value.agg { toList:=[Value.int .i64 pages,.int .i64 stack,.int .i64 types,.slice none 0 0,.string ⟨⟨data⟩⟩,.slice (some ⟨65,0,none⟩) rs.length (big+65),.slice (some { block:=66,off:=0,spot:=some 66 }) 0 (big+66)] }] ⟨67,[(65,⟨false,some (0,0),rels rs,none⟩)],[(64,0),(65,rs.length),(66,0)],0,[],0,True⟩ = some (Value.agg ⟨[.int .i64 pages,.int .i64 stack,.int .i64 types,.slice (some ⟨70,0,none⟩) 0 9223372036854775878,.string ⟨⟨List.take ((if (20000:Int) < (↑(lenT data):Int) then (20000:Int) else (↑(lenT data):Int)).toNat - 0) (List.drop 0 data)⟩⟩,.slice (some ⟨72,0,none⟩) (0+(if (300:Int) < (↑rs.length:Int) then (300:Int) else (↑rs.length:Int)).toNat) 9223372036854775880,.slice (some ⟨74,0,none⟩) 0 9223372036854775882]⟩,{ n:=75,h:=[(74,⟨true,some (74,1),[],none⟩),(72,⟨true,some (72,6),List.take ((if (300:Int) < (↑rs.length:Int) then (300:Int) else (↑rs.length:Int)).toNat * 6) (List.drop 0 (rels rs)),none⟩),(70,⟨true,some (70,1),[],none⟩),(68,⟨true,none,[Value.int .i64 pages,.int .i64 stack,.int .i64 types,.slice (some ⟨70,0,none⟩) 0 9223372036854775878,.string ⟨⟨List.take ((if (20000:Int) < (↑(lenT data):Int) then (20000:Int) else (↑(lenT data):Int)).toNat - 0) (List.drop 0 data)⟩⟩,.slice (some ⟨72,0,none⟩) (0+(if (300:Int) < (↑rs.length:Int) then (300:Int) else (↑rs.length:Int)).toNat) 9223372036854775880,.slice (some ⟨74,0,none⟩) 0 9223372036854775882],none⟩),(67,⟨true,none,[Value.int .i64 pages,.int .i64 stack,.int .i64 types,.slice (some ⟨70,0,none⟩) 0 9223372036854775878,.string ⟨⟨List.take ((if (20000:Int) < (↑(lenT data):Int) then (20000:Int) else (↑(lenT data):Int)).toNat - 0) (List.drop 0 data)⟩⟩,.slice (some ⟨72,0,none⟩) (0+(if (300:Int) < (↑rs.length:Int) then (300:Int) else (↑rs.length:Int)).toNat) 9223372036854775880,.slice (some ⟨74,0,none⟩) 0 9223372036854775882],none⟩),(65,⟨false,some (0,0),rels rs,none⟩)],lo:=[(74,0),(72,0+(if (300:Int) < (↑rs.length:Int) then (300:Int) else (↑rs.length:Int)).toNat),(70,0),(64,0),(65,rs.length),(66,0)],esc:=0,T:=[],k:=0,O:=bif (lenT (List.take ((if (300:Int) < (↑rs.length:Int) then (300:Int) else (↑rs.length:Int)).toNat * 6) (List.drop 0 (rels rs)))).beq ((if (300:Int) < (↑rs.length:Int) then (300:Int) else (↑rs.length:Int)).toNat * 6) && oneC (List.take ((if (300:Int) < (↑rs.length:Int) then (300:Int) else (↑rs.length:Int)).toNat * 6) (List.drop 0 (rels rs))) && ((0+(if (300:Int) < (↑rs.length:Int) then (300:Int) else (↑rs.length:Int)).toNat) * 20).ble 1099511627776 && (0+(if (300:Int) < (↑rs.length:Int) then (300:Int) else (↑rs.length:Int)).toNat).blt 4611686018427387904 then bif hasN (0+(if (300:Int) < (↑rs.length:Int) then (300:Int) else (↑rs.length:Int)).toNat * 6) (rels rs) then bif decide ((0:Int) ≤ if (300:Int) < (↑rs.length:Int) then (300:Int) else (↑rs.length:Int)) && decide ((if (300:Int) < (↑rs.length:Int) then (300:Int) else (↑rs.length:Int)) ≤ (↑rs.length:Int)) then bif decide ((0:Int) ≤ if (20000:Int) < (↑(lenT data):Int) then (20000:Int) else (↑(lenT data):Int)) && decide ((if (20000:Int) < (↑(lenT data):Int) then (20000:Int) else (↑(lenT data):Int)) ≤ (↑(lenT data):Int)) then True else False else False else False else False : St }):=by kernel_rfl
theorem own_nll (pages stack types : Int) (data : List UInt8) (cs : List Nat) (rs : List Rl) (starts : List Nat) : evF Try.prog noBase noLoop 100 10 9 [Value.agg ⟨[.int .i64 pages,.int .i64 stack,.int .i64 types,.slice none 0 0,.string ⟨⟨data⟩⟩,.slice (some ⟨65,0,none⟩) rs.length (big+65),.slice (some ⟨66,0,none⟩) starts.length (big+66)]⟩] ⟨67,[(65,⟨false,some (0,0),rels rs,none⟩),(66,⟨false,some (0,0),u32s starts,none⟩)],[(64,0),(65,rs.length),(66,starts.length)],0,[],0,True⟩ = some (Value.agg ⟨[.int .i64 pages,.int .i64 stack,.int .i64 types,.slice (some ⟨70,0,none⟩) 0 9223372036854775878,.string ⟨⟨List.take ((if (20000:Int) < (↑(lenT data):Int) then (20000:Int) else (↑(lenT data):Int)).toNat - 0) (List.drop 0 data)⟩⟩,.slice (some ⟨72,0,none⟩) (0+(if (300:Int) < (↑rs.length:Int) then (300:Int) else (↑rs.length:Int)).toNat) 9223372036854775880,.slice (some ⟨74,0,none⟩) (0+(if (6:Int) < (↑starts.length:Int) then (6:Int) else (↑starts.length:Int)).toNat) 9223372036854775882]⟩,{ n:=75,h:=[(74,⟨true,some (74,1),List.take ((if (6:Int) < (↑starts.length:Int) then (6:Int) else (↑starts.length:Int)).toNat * 1) (List.drop 0 (u32s starts)),none⟩),(72,⟨true,some (72,6),List.take ((if (300:Int) < (↑rs.length:Int) then (300:Int) else (↑rs.length:Int)).toNat * 6) (List.drop 0 (rels rs)),none⟩),(70,⟨true,some (70,1),[],none⟩),(68,⟨true,none,[Value.int .i64 pages,.int .i64 stack,.int .i64 types,.slice (some ⟨70,0,none⟩) 0 9223372036854775878,.string ⟨⟨List.take ((if (20000:Int) < (↑(lenT data):Int) then (20000:Int) else (↑(lenT data):Int)).toNat - 0) (List.drop 0 data)⟩⟩,.slice (some ⟨72,0,none⟩) (0+(if (300:Int) < (↑rs.length:Int) then (300:Int) else (↑rs.length:Int)).toNat) 9223372036854775880,.slice (some ⟨74,0,none⟩) (0+(if (6:Int) < (↑starts.length:Int) then (6:Int) else (↑starts.length:Int)).toNat) 9223372036854775882],none⟩),(67,⟨true,none,[Value.int .i64 pages,.int .i64 stack,.int .i64 types,.slice (some ⟨70,0,none⟩) 0 9223372036854775878,.string ⟨⟨List.take ((if (20000:Int) < (↑(lenT data):Int) then (20000:Int) else (↑(lenT data):Int)).toNat - 0) (List.drop 0 data)⟩⟩,.slice (some ⟨72,0,none⟩) (0+(if (300:Int) < (↑rs.length:Int) then (300:Int) else (↑rs.length:Int)).toNat) 9223372036854775880,.slice (some ⟨74,0,none⟩) (0+(if (6:Int) < (↑starts.length:Int) then (6:Int) else (↑starts.length:Int)).toNat) 9223372036854775882],none⟩),(65,⟨false,some (0,0),rels rs,none⟩),(66,⟨false,some (0,0),u32s starts,none⟩)],lo:=[(74,0+(if (6:Int) < (↑starts.length:Int) then (6:Int) else (↑starts.length:Int)).toNat),(72,0+(if (300:Int) < (↑rs.length:Int) then (300:Int) else (↑rs.length:Int)).toNat),(70,0),(64,0),(65,rs.length),(66,starts.length)],esc:=0,T:=[],k:=0,O:=bif (lenT (List.take ((if (6:Int) < (↑starts.length:Int) then (6:Int) else (↑starts.length:Int)).toNat * 1) (List.drop 0 (u32s starts)))).beq ((if (6:Int) < (↑starts.length:Int) then (6:Int) else (↑starts.length:Int)).toNat * 1) && oneC (List.take ((if (6:Int) < (↑starts.length:Int) then (6:Int) else (↑starts.length:Int)).toNat * 1) (List.drop 0 (u32s starts))) && ((0+(if (6:Int) < (↑starts.length:Int) then (6:Int) else (↑starts.length:Int)).toNat) * 4).ble 1099511627776 && (0+(if (6:Int) < (↑starts.length:Int) then (6:Int) else (↑starts.length:Int)).toNat).blt 4611686018427387904 then bif hasN (0+(if (6:Int) < (↑starts.length:Int) then (6:Int) else (↑starts.length:Int)).toNat * 1) (u32s starts) then bif decide ((0:Int) ≤ if (6:Int) < (↑starts.length:Int) then (6:Int) else (↑starts.length:Int)) && decide ((if (6:Int) < (↑starts.length:Int) then (6:Int) else (↑starts.length:Int)) ≤ (↑starts.length:Int)) then bif (lenT (List.take ((if (300:Int) < (↑rs.length:Int) then (300:Int) else (↑rs.length:Int)).toNat * 6) (List.drop 0 (rels rs)))).beq ((if (300:Int) < (↑rs.length:Int) then (300:Int) else (↑rs.length:Int)).toNat * 6) && oneC (List.take ((if (300:Int) < (↑rs.length:Int) then (300:Int) else (↑rs.length:Int)).toNat * 6) (List.drop 0 (rels rs))) && ((0+(if (300:Int) < (↑rs.length:Int) then (300:Int) else (↑rs.length:Int)).toNat) * 20).ble 1099511627776 && (0+(if (300:Int) < (↑rs.length:Int) then (300:Int) else (↑rs.length:Int)).toNat).blt 4611686018427387904 then bif hasN (0+(if (300:Int) < (↑rs.length:Int) then (300:Int) else (↑rs.length:Int)).toNat * 6) (rels rs) then bif decide ((0:Int) ≤ if (300:Int) < (↑rs.length:Int) then (300:Int) else (↑rs.length:Int)) && decide ((if (300:Int) < (↑rs.length:Int) then (300:Int) else (↑rs.length:Int)) ≤ (↑rs.length:Int)) then bif decide ((0:Int) ≤ if (20000:Int) < (↑(lenT data):Int) then (20000:Int) else (↑(lenT data):Int)) && decide ((if (20000:Int) < (↑(lenT data):Int) then (20000:Int) else (↑(lenT data):Int)) ≤ (↑(lenT data):Int)) then True else False else False else False else False else False else False else False : St }):=by kernel_rfl
theorem own_enn (pages stack types : Int) (data : List UInt8) (cs : List Nat) (rs : List Rl) (starts : List Nat) : evF Try.prog noBase noLoop 100 10 9 [Value.agg { toList:=[Value.int .i64 pages,.int .i64 stack,.int .i64 types,.slice (some { block:=64,off:=0,spot:=some 64 }) 0 (big+64),.string ⟨⟨data⟩⟩,.slice none 0 0,.slice none 0 0] }] ⟨67,[],[(64,0),(65,0),(66,0)],0,[],0,True⟩ = some (Value.agg ⟨[.int .i64 pages,.int .i64 stack,.int .i64 types,.slice (some ⟨70,0,none⟩) 0 9223372036854775878,.string ⟨⟨List.take ((if (20000:Int) < (↑(lenT data):Int) then (20000:Int) else (↑(lenT data):Int)).toNat - 0) (List.drop 0 data)⟩⟩,.slice (some ⟨72,0,none⟩) 0 9223372036854775880,.slice (some ⟨74,0,none⟩) 0 9223372036854775882]⟩,{ n:=75,h:=[(74,⟨true,some (74,1),[],none⟩),(72,⟨true,some (72,6),[],none⟩),(70,⟨true,some (70,1),[],none⟩),(68,⟨true,none,[Value.int .i64 pages,.int .i64 stack,.int .i64 types,.slice (some ⟨70,0,none⟩) 0 9223372036854775878,.string ⟨⟨List.take ((if (20000:Int) < (↑(lenT data):Int) then (20000:Int) else (↑(lenT data):Int)).toNat - 0) (List.drop 0 data)⟩⟩,.slice (some ⟨72,0,none⟩) 0 9223372036854775880,.slice (some ⟨74,0,none⟩) 0 9223372036854775882],none⟩),(67,⟨true,none,[Value.int .i64 pages,.int .i64 stack,.int .i64 types,.slice (some ⟨70,0,none⟩) 0 9223372036854775878,.string ⟨⟨List.take ((if (20000:Int) < (↑(lenT data):Int) then (20000:Int) else (↑(lenT data):Int)).toNat - 0) (List.drop 0 data)⟩⟩,.slice (some ⟨72,0,none⟩) 0 9223372036854775880,.slice (some ⟨74,0,none⟩) 0 9223372036854775882],none⟩)],lo:=[(74,0),(72,0),(70,0),(64,0),(65,0),(66,0)],esc:=0,T:=[],k:=0,O:=bif decide ((0:Int) ≤ if (20000:Int) < (↑(lenT data):Int) then (20000:Int) else (↑(lenT data):Int)) && decide ((if (20000:Int) < (↑(lenT data):Int) then (20000:Int) else (↑(lenT data):Int)) ≤ (↑(lenT data):Int)) then True else False : St }):=by kernel_rfl
theorem own_ene (pages stack types : Int) (data : List UInt8) (cs : List Nat) (rs : List Rl) (starts : List Nat) : evF Try.prog noBase noLoop 100 10 9 [Value.agg { toList:=[Value.int .i64 pages,.int .i64 stack,.int .i64 types,.slice (some { block:=64,off:=0,spot:=some 64 }) 0 (big+64),.string ⟨⟨data⟩⟩,.slice none 0 0,.slice (some { block:=66,off:=0,spot:=some 66 }) 0 (big+66)] }] ⟨67,[],[(64,0),(65,0),(66,0)],0,[],0,True⟩ = some (Value.agg ⟨[.int .i64 pages,.int .i64 stack,.int .i64 types,.slice (some ⟨70,0,none⟩) 0 9223372036854775878,.string ⟨⟨List.take ((if (20000:Int) < (↑(lenT data):Int) then (20000:Int) else (↑(lenT data):Int)).toNat - 0) (List.drop 0 data)⟩⟩,.slice (some ⟨72,0,none⟩) 0 9223372036854775880,.slice (some ⟨74,0,none⟩) 0 9223372036854775882]⟩,{ n:=75,h:=[(74,⟨true,some (74,1),[],none⟩),(72,⟨true,some (72,6),[],none⟩),(70,⟨true,some (70,1),[],none⟩),(68,⟨true,none,[Value.int .i64 pages,.int .i64 stack,.int .i64 types,.slice (some ⟨70,0,none⟩) 0 9223372036854775878,.string ⟨⟨List.take ((if (20000:Int) < (↑(lenT data):Int) then (20000:Int) else (↑(lenT data):Int)).toNat - 0) (List.drop 0 data)⟩⟩,.slice (some ⟨72,0,none⟩) 0 9223372036854775880,.slice (some ⟨74,0,none⟩) 0 9223372036854775882],none⟩),(67,⟨true,none,[Value.int .i64 pages,.int .i64 stack,.int .i64 types,.slice (some ⟨70,0,none⟩) 0 9223372036854775878,.string ⟨⟨List.take ((if (20000:Int) < (↑(lenT data):Int) then (20000:Int) else (↑(lenT data):Int)).toNat - 0) (List.drop 0 data)⟩⟩,.slice (some ⟨72,0,none⟩) 0 9223372036854775880,.slice (some ⟨74,0,none⟩) 0 9223372036854775882],none⟩)],lo:=[(74,0),(72,0),(70,0),(64,0),(65,0),(66,0)],esc:=0,T:=[],k:=0,O:=bif decide ((0:Int) ≤ if (20000:Int) < (↑(lenT data):Int) then (20000:Int) else (↑(lenT data):Int)) && decide ((if (20000:Int) < (↑(lenT data):Int) then (20000:Int) else (↑(lenT data):Int)) ≤ (↑(lenT data):Int)) then True else False : St }):=by kernel_rfl
theorem own_enl (pages stack types : Int) (data : List UInt8) (cs : List Nat) (rs : List Rl) (starts : List Nat) : evF Try.prog noBase noLoop 100 10 9 [Value.agg { toList:=[Value.int .i64 pages,.int .i64 stack,.int .i64 types,.slice (some { block:=64,off:=0,spot:=some 64 }) 0 (big+64),.string ⟨⟨data⟩⟩,.slice none 0 0,.slice (some ⟨66,0,none⟩) starts.length (big+66)] }] ⟨67,[(66,⟨false,some (0,0),u32s starts,none⟩)],[(64,0),(65,0),(66,starts.length)],0,[],0,True⟩ = some (Value.agg ⟨[.int .i64 pages,.int .i64 stack,.int .i64 types,.slice (some ⟨70,0,none⟩) 0 9223372036854775878,.string ⟨⟨List.take ((if (20000:Int) < (↑(lenT data):Int) then (20000:Int) else (↑(lenT data):Int)).toNat - 0) (List.drop 0 data)⟩⟩,.slice (some ⟨72,0,none⟩) 0 9223372036854775880,.slice (some ⟨74,0,none⟩) (0+(if (6:Int) < (↑starts.length:Int) then (6:Int) else (↑starts.length:Int)).toNat) 9223372036854775882]⟩,{ n:=75,h:=[(74,⟨true,some (74,1),List.take ((if (6:Int) < (↑starts.length:Int) then (6:Int) else (↑starts.length:Int)).toNat * 1) (List.drop 0 (u32s starts)),none⟩),(72,⟨true,some (72,6),[],none⟩),(70,⟨true,some (70,1),[],none⟩),(68,⟨true,none,[Value.int .i64 pages,.int .i64 stack,.int .i64 types,.slice (some ⟨70,0,none⟩) 0 9223372036854775878,.string ⟨⟨List.take ((if (20000:Int) < (↑(lenT data):Int) then (20000:Int) else (↑(lenT data):Int)).toNat - 0) (List.drop 0 data)⟩⟩,.slice (some ⟨72,0,none⟩) 0 9223372036854775880,.slice (some ⟨74,0,none⟩) (0+(if (6:Int) < (↑starts.length:Int) then (6:Int) else (↑starts.length:Int)).toNat) 9223372036854775882],none⟩),(67,⟨true,none,[Value.int .i64 pages,.int .i64 stack,.int .i64 types,.slice (some ⟨70,0,none⟩) 0 9223372036854775878,.string ⟨⟨List.take ((if (20000:Int) < (↑(lenT data):Int) then (20000:Int) else (↑(lenT data):Int)).toNat - 0) (List.drop 0 data)⟩⟩,.slice (some ⟨72,0,none⟩) 0 9223372036854775880,.slice (some ⟨74,0,none⟩) (0+(if (6:Int) < (↑starts.length:Int) then (6:Int) else (↑starts.length:Int)).toNat) 9223372036854775882],none⟩),(66,⟨false,some (0,0),u32s starts,none⟩)],lo:=[(74,0+(if (6:Int) < (↑starts.length:Int) then (6:Int) else (↑starts.length:Int)).toNat),(72,0),(70,0),(64,0),(65,0),(66,starts.length)],esc:=0,T:=[],k:=0,O:=bif (lenT (List.take ((if (6:Int) < (↑starts.length:Int) then (6:Int) else (↑starts.length:Int)).toNat * 1) (List.drop 0 (u32s starts)))).beq ((if (6:Int) < (↑starts.length:Int) then (6:Int) else (↑starts.length:Int)).toNat * 1) && oneC (List.take ((if (6:Int) < (↑starts.length:Int) then (6:Int) else (↑starts.length:Int)).toNat * 1) (List.drop 0 (u32s starts))) && ((0+(if (6:Int) < (↑starts.length:Int) then (6:Int) else (↑starts.length:Int)).toNat) * 4).ble 1099511627776 && (0+(if (6:Int) < (↑starts.length:Int) then (6:Int) else (↑starts.length:Int)).toNat).blt 4611686018427387904 then bif hasN (0+(if (6:Int) < (↑starts.length:Int) then (6:Int) else (↑starts.length:Int)).toNat * 1) (u32s starts) then bif decide ((0:Int) ≤ if (6:Int) < (↑starts.length:Int) then (6:Int) else (↑starts.length:Int)) && decide ((if (6:Int) < (↑starts.length:Int) then (6:Int) else (↑starts.length:Int)) ≤ (↑starts.length:Int)) then bif decide ((0:Int) ≤ if (20000:Int) < (↑(lenT data):Int) then (20000:Int) else (↑(lenT data):Int)) && decide ((if (20000:Int) < (↑(lenT data):Int) then (20000:Int) else (↑(lenT data):Int)) ≤ (↑(lenT data):Int)) then True else False else False else False else False : St }):=by kernel_rfl
theorem own_een (pages stack types : Int) (data : List UInt8) (cs : List Nat) (rs : List Rl) (starts : List Nat) : evF Try.prog noBase noLoop 100 10 9 [Value.agg { toList:=[Value.int .i64 pages,.int .i64 stack,.int .i64 types,.slice (some { block:=64,off:=0,spot:=some 64 }) 0 (big+64),.string ⟨⟨data⟩⟩,.slice (some { block:=65,off:=0,spot:=some 65 }) 0 (big+65),.slice none 0 0] }] ⟨67,[],[(64,0),(65,0),(66,0)],0,[],0,True⟩ = some (Value.agg ⟨[.int .i64 pages,.int .i64 stack,.int .i64 types,.slice (some ⟨70,0,none⟩) 0 9223372036854775878,.string ⟨⟨List.take ((if (20000:Int) < (↑(lenT data):Int) then (20000:Int) else (↑(lenT data):Int)).toNat - 0) (List.drop 0 data)⟩⟩,.slice (some ⟨72,0,none⟩) 0 9223372036854775880,.slice (some ⟨74,0,none⟩) 0 9223372036854775882]⟩,{ n:=75,h:=[(74,⟨true,some (74,1),[],none⟩),(72,⟨true,some (72,6),[],none⟩),(70,⟨true,some (70,1),[],none⟩),(68,⟨true,none,[Value.int .i64 pages,.int .i64 stack,.int .i64 types,.slice (some ⟨70,0,none⟩) 0 9223372036854775878,.string ⟨⟨List.take ((if (20000:Int) < (↑(lenT data):Int) then (20000:Int) else (↑(lenT data):Int)).toNat - 0) (List.drop 0 data)⟩⟩,.slice (some ⟨72,0,none⟩) 0 9223372036854775880,.slice (some ⟨74,0,none⟩) 0 9223372036854775882],none⟩),(67,⟨true,none,[Value.int .i64 pages,.int .i64 stack,.int .i64 types,.slice (some ⟨70,0,none⟩) 0 9223372036854775878,.string ⟨⟨List.take ((if (20000:Int) < (↑(lenT data):Int) then (20000:Int) else (↑(lenT data):Int)).toNat - 0) (List.drop 0 data)⟩⟩,.slice (some ⟨72,0,none⟩) 0 9223372036854775880,.slice (some ⟨74,0,none⟩) 0 9223372036854775882],none⟩)],lo:=[(74,0),(72,0),(70,0),(64,0),(65,0),(66,0)],esc:=0,T:=[],k:=0,O:=bif decide ((0:Int) ≤ if (20000:Int) < (↑(lenT data):Int) then (20000:Int) else (↑(lenT data):Int)) && decide ((if (20000:Int) < (↑(lenT data):Int) then (20000:Int) else (↑(lenT data):Int)) ≤ (↑(lenT data):Int)) then True else False : St }):=by kernel_rfl
theorem own_eee (pages stack types : Int) (data : List UInt8) (cs : List Nat) (rs : List Rl) (starts : List Nat) : evF Try.prog noBase noLoop 100 10 9 [Value.agg { toList:=[Value.int .i64 pages,.int .i64 stack,.int .i64 types,.slice (some { block:=64,off:=0,spot:=some 64 }) 0 (big+64),.string ⟨⟨data⟩⟩,.slice (some { block:=65,off:=0,spot:=some 65 }) 0 (big+65),.slice (some { block:=66,off:=0,spot:=some 66 }) 0 (big+66)] }] ⟨67,[],[(64,0),(65,0),(66,0)],0,[],0,True⟩ = some (Value.agg ⟨[.int .i64 pages,.int .i64 stack,.int .i64 types,.slice (some ⟨70,0,none⟩) 0 9223372036854775878,.string ⟨⟨List.take ((if (20000:Int) < (↑(lenT data):Int) then (20000:Int) else (↑(lenT data):Int)).toNat - 0) (List.drop 0 data)⟩⟩,.slice (some ⟨72,0,none⟩) 0 9223372036854775880,.slice (some ⟨74,0,none⟩) 0 9223372036854775882]⟩,{ n:=75,h:=[(74,⟨true,some (74,1),[],none⟩),(72,⟨true,some (72,6),[],none⟩),(70,⟨true,some (70,1),[],none⟩),(68,⟨true,none,[Value.int .i64 pages,.int .i64 stack,.int .i64 types,.slice (some ⟨70,0,none⟩) 0 9223372036854775878,.string ⟨⟨List.take ((if (20000:Int) < (↑(lenT data):Int) then (20000:Int) else (↑(lenT data):Int)).toNat - 0) (List.drop 0 data)⟩⟩,.slice (some ⟨72,0,none⟩) 0 9223372036854775880,.slice (some ⟨74,0,none⟩) 0 9223372036854775882],none⟩),(67,⟨true,none,[Value.int .i64 pages,.int .i64 stack,.int .i64 types,.slice (some ⟨70,0,none⟩) 0 9223372036854775878,.string ⟨⟨List.take ((if (20000:Int) < (↑(lenT data):Int) then (20000:Int) else (↑(lenT data):Int)).toNat - 0) (List.drop 0 data)⟩⟩,.slice (some ⟨72,0,none⟩) 0 9223372036854775880,.slice (some ⟨74,0,none⟩) 0 9223372036854775882],none⟩)],lo:=[(74,0),(72,0),(70,0),(64,0),(65,0),(66,0)],esc:=0,T:=[],k:=0,O:=bif decide ((0:Int) ≤ if (20000:Int) < (↑(lenT data):Int) then (20000:Int) else (↑(lenT data):Int)) && decide ((if (20000:Int) < (↑(lenT data):Int) then (20000:Int) else (↑(lenT data):Int)) ≤ (↑(lenT data):Int)) then True else False : St }):=by kernel_rfl
theorem own_eel (pages stack types : Int) (data : List UInt8) (cs : List Nat) (rs : List Rl) (starts : List Nat) : evF Try.prog noBase noLoop 100 10 9 [Value.agg { toList:=[Value.int .i64 pages,.int .i64 stack,.int .i64 types,.slice (some { block:=64,off:=0,spot:=some 64 }) 0 (big+64),.string ⟨⟨data⟩⟩,.slice (some { block:=65,off:=0,spot:=some 65 }) 0 (big+65),.slice (some ⟨66,0,none⟩) starts.length (big+66)] }] ⟨67,[(66,⟨false,some (0,0),u32s starts,none⟩)],[(64,0),(65,0),(66,starts.length)],0,[],0,True⟩ = some (Value.agg ⟨[.int .i64 pages,.int .i64 stack,.int .i64 types,.slice (some ⟨70,0,none⟩) 0 9223372036854775878,.string ⟨⟨List.take ((if (20000:Int) < (↑(lenT data):Int) then (20000:Int) else (↑(lenT data):Int)).toNat - 0) (List.drop 0 data)⟩⟩,.slice (some ⟨72,0,none⟩) 0 9223372036854775880,.slice (some ⟨74,0,none⟩) (0+(if (6:Int) < (↑starts.length:Int) then (6:Int) else (↑starts.length:Int)).toNat) 9223372036854775882]⟩,{ n:=75,h:=[(74,⟨true,some (74,1),List.take ((if (6:Int) < (↑starts.length:Int) then (6:Int) else (↑starts.length:Int)).toNat * 1) (List.drop 0 (u32s starts)),none⟩),(72,⟨true,some (72,6),[],none⟩),(70,⟨true,some (70,1),[],none⟩),(68,⟨true,none,[Value.int .i64 pages,.int .i64 stack,.int .i64 types,.slice (some ⟨70,0,none⟩) 0 9223372036854775878,.string ⟨⟨List.take ((if (20000:Int) < (↑(lenT data):Int) then (20000:Int) else (↑(lenT data):Int)).toNat - 0) (List.drop 0 data)⟩⟩,.slice (some ⟨72,0,none⟩) 0 9223372036854775880,.slice (some ⟨74,0,none⟩) (0+(if (6:Int) < (↑starts.length:Int) then (6:Int) else (↑starts.length:Int)).toNat) 9223372036854775882],none⟩),(67,⟨true,none,[Value.int .i64 pages,.int .i64 stack,.int .i64 types,.slice (some ⟨70,0,none⟩) 0 9223372036854775878,.string ⟨⟨List.take ((if (20000:Int) < (↑(lenT data):Int) then (20000:Int) else (↑(lenT data):Int)).toNat - 0) (List.drop 0 data)⟩⟩,.slice (some ⟨72,0,none⟩) 0 9223372036854775880,.slice (some ⟨74,0,none⟩) (0+(if (6:Int) < (↑starts.length:Int) then (6:Int) else (↑starts.length:Int)).toNat) 9223372036854775882],none⟩),(66,⟨false,some (0,0),u32s starts,none⟩)],lo:=[(74,0+(if (6:Int) < (↑starts.length:Int) then (6:Int) else (↑starts.length:Int)).toNat),(72,0),(70,0),(64,0),(65,0),(66,starts.length)],esc:=0,T:=[],k:=0,O:=bif (lenT (List.take ((if (6:Int) < (↑starts.length:Int) then (6:Int) else (↑starts.length:Int)).toNat * 1) (List.drop 0 (u32s starts)))).beq ((if (6:Int) < (↑starts.length:Int) then (6:Int) else (↑starts.length:Int)).toNat * 1) && oneC (List.take ((if (6:Int) < (↑starts.length:Int) then (6:Int) else (↑starts.length:Int)).toNat * 1) (List.drop 0 (u32s starts))) && ((0+(if (6:Int) < (↑starts.length:Int) then (6:Int) else (↑starts.length:Int)).toNat) * 4).ble 1099511627776 && (0+(if (6:Int) < (↑starts.length:Int) then (6:Int) else (↑starts.length:Int)).toNat).blt 4611686018427387904 then bif hasN (0+(if (6:Int) < (↑starts.length:Int) then (6:Int) else (↑starts.length:Int)).toNat * 1) (u32s starts) then bif decide ((0:Int) ≤ if (6:Int) < (↑starts.length:Int) then (6:Int) else (↑starts.length:Int)) && decide ((if (6:Int) < (↑starts.length:Int) then (6:Int) else (↑starts.length:Int)) ≤ (↑starts.length:Int)) then bif decide ((0:Int) ≤ if (20000:Int) < (↑(lenT data):Int) then (20000:Int) else (↑(lenT data):Int)) && decide ((if (20000:Int) < (↑(lenT data):Int) then (20000:Int) else (↑(lenT data):Int)) ≤ (↑(lenT data):Int)) then True else False else False else False else False : St }):=by kernel_rfl
theorem own_eln (pages stack types : Int) (data : List UInt8) (cs : List Nat) (rs : List Rl) (starts : List Nat) : evF Try.prog noBase noLoop 100 10 9 [Value.agg { toList:=[Value.int .i64 pages,.int .i64 stack,.int .i64 types,.slice (some { block:=64,off:=0,spot:=some 64 }) 0 (big+64),.string ⟨⟨data⟩⟩,.slice (some ⟨65,0,none⟩) rs.length (big+65),.slice none 0 0] }] ⟨67,[(65,⟨false,some (0,0),rels rs,none⟩)],[(64,0),(65,rs.length),(66,0)],0,[],0,True⟩ = some (Value.agg ⟨[.int .i64 pages,.int .i64 stack,.int .i64 types,.slice (some ⟨70,0,none⟩) 0 9223372036854775878,.string ⟨⟨List.take ((if (20000:Int) < (↑(lenT data):Int) then (20000:Int) else (↑(lenT data):Int)).toNat - 0) (List.drop 0 data)⟩⟩,.slice (some ⟨72,0,none⟩) (0+(if (300:Int) < (↑rs.length:Int) then (300:Int) else (↑rs.length:Int)).toNat) 9223372036854775880,.slice (some ⟨74,0,none⟩) 0 9223372036854775882]⟩,{ n:=75,h:=[(74,⟨true,some (74,1),[],none⟩),(72,⟨true,some (72,6),List.take ((if (300:Int) < (↑rs.length:Int) then (300:Int) else (↑rs.length:Int)).toNat * 6) (List.drop 0 (rels rs)),none⟩),(70,⟨true,some (70,1),[],none⟩),(68,⟨true,none,[Value.int .i64 pages,.int .i64 stack,.int .i64 types,.slice (some ⟨70,0,none⟩) 0 9223372036854775878,.string ⟨⟨List.take ((if (20000:Int) < (↑(lenT data):Int) then (20000:Int) else (↑(lenT data):Int)).toNat - 0) (List.drop 0 data)⟩⟩,.slice (some ⟨72,0,none⟩) (0+(if (300:Int) < (↑rs.length:Int) then (300:Int) else (↑rs.length:Int)).toNat) 9223372036854775880,.slice (some ⟨74,0,none⟩) 0 9223372036854775882],none⟩),(67,⟨true,none,[Value.int .i64 pages,.int .i64 stack,.int .i64 types,.slice (some ⟨70,0,none⟩) 0 9223372036854775878,.string ⟨⟨List.take ((if (20000:Int) < (↑(lenT data):Int) then (20000:Int) else (↑(lenT data):Int)).toNat - 0) (List.drop 0 data)⟩⟩,.slice (some ⟨72,0,none⟩) (0+(if (300:Int) < (↑rs.length:Int) then (300:Int) else (↑rs.length:Int)).toNat) 9223372036854775880,.slice (some ⟨74,0,none⟩) 0 9223372036854775882],none⟩),(65,⟨false,some (0,0),rels rs,none⟩)],lo:=[(74,0),(72,0+(if (300:Int) < (↑rs.length:Int) then (300:Int) else (↑rs.length:Int)).toNat),(70,0),(64,0),(65,rs.length),(66,0)],esc:=0,T:=[],k:=0,O:=bif (lenT (List.take ((if (300:Int) < (↑rs.length:Int) then (300:Int) else (↑rs.length:Int)).toNat * 6) (List.drop 0 (rels rs)))).beq ((if (300:Int) < (↑rs.length:Int) then (300:Int) else (↑rs.length:Int)).toNat * 6) && oneC (List.take ((if (300:Int) < (↑rs.length:Int) then (300:Int) else (↑rs.length:Int)).toNat * 6) (List.drop 0 (rels rs))) && ((0+(if (300:Int) < (↑rs.length:Int) then (300:Int) else (↑rs.length:Int)).toNat) * 20).ble 1099511627776 && (0+(if (300:Int) < (↑rs.length:Int) then (300:Int) else (↑rs.length:Int)).toNat).blt 4611686018427387904 then bif hasN (0+(if (300:Int) < (↑rs.length:Int) then (300:Int) else (↑rs.length:Int)).toNat * 6) (rels rs) then bif decide ((0:Int) ≤ if (300:Int) < (↑rs.length:Int) then (300:Int) else (↑rs.length:Int)) && decide ((if (300:Int) < (↑rs.length:Int) then (300:Int) else (↑rs.length:Int)) ≤ (↑rs.length:Int)) then bif decide ((0:Int) ≤ if (20000:Int) < (↑(lenT data):Int) then (20000:Int) else (↑(lenT data):Int)) && decide ((if (20000:Int) < (↑(lenT data):Int) then (20000:Int) else (↑(lenT data):Int)) ≤ (↑(lenT data):Int)) then True else False else False else False else False : St }):=by kernel_rfl
theorem own_ele (pages stack types : Int) (data : List UInt8) (cs : List Nat) (rs : List Rl) (starts : List Nat) : evF Try.prog noBase noLoop 100 10 9 [Value.agg { toList:=[Value.int .i64 pages,.int .i64 stack,.int .i64 types,.slice (some { block:=64,off:=0,spot:=some 64 }) 0 (big+64),.string ⟨⟨data⟩⟩,.slice (some ⟨65,0,none⟩) rs.length (big+65),.slice (some { block:=66,off:=0,spot:=some 66 }) 0 (big+66)] }] ⟨67,[(65,⟨false,some (0,0),rels rs,none⟩)],[(64,0),(65,rs.length),(66,0)],0,[],0,True⟩ = some (Value.agg ⟨[.int .i64 pages,.int .i64 stack,.int .i64 types,.slice (some ⟨70,0,none⟩) 0 9223372036854775878,.string ⟨⟨List.take ((if (20000:Int) < (↑(lenT data):Int) then (20000:Int) else (↑(lenT data):Int)).toNat - 0) (List.drop 0 data)⟩⟩,.slice (some ⟨72,0,none⟩) (0+(if (300:Int) < (↑rs.length:Int) then (300:Int) else (↑rs.length:Int)).toNat) 9223372036854775880,.slice (some ⟨74,0,none⟩) 0 9223372036854775882]⟩,{ n:=75,h:=[(74,⟨true,some (74,1),[],none⟩),(72,⟨true,some (72,6),List.take ((if (300:Int) < (↑rs.length:Int) then (300:Int) else (↑rs.length:Int)).toNat * 6) (List.drop 0 (rels rs)),none⟩),(70,⟨true,some (70,1),[],none⟩),(68,⟨true,none,[Value.int .i64 pages,.int .i64 stack,.int .i64 types,.slice (some ⟨70,0,none⟩) 0 9223372036854775878,.string ⟨⟨List.take ((if (20000:Int) < (↑(lenT data):Int) then (20000:Int) else (↑(lenT data):Int)).toNat - 0) (List.drop 0 data)⟩⟩,.slice (some ⟨72,0,none⟩) (0+(if (300:Int) < (↑rs.length:Int) then (300:Int) else (↑rs.length:Int)).toNat) 9223372036854775880,.slice (some ⟨74,0,none⟩) 0 9223372036854775882],none⟩),(67,⟨true,none,[Value.int .i64 pages,.int .i64 stack,.int .i64 types,.slice (some ⟨70,0,none⟩) 0 9223372036854775878,.string ⟨⟨List.take ((if (20000:Int) < (↑(lenT data):Int) then (20000:Int) else (↑(lenT data):Int)).toNat - 0) (List.drop 0 data)⟩⟩,.slice (some ⟨72,0,none⟩) (0+(if (300:Int) < (↑rs.length:Int) then (300:Int) else (↑rs.length:Int)).toNat) 9223372036854775880,.slice (some ⟨74,0,none⟩) 0 9223372036854775882],none⟩),(65,⟨false,some (0,0),rels rs,none⟩)],lo:=[(74,0),(72,0+(if (300:Int) < (↑rs.length:Int) then (300:Int) else (↑rs.length:Int)).toNat),(70,0),(64,0),(65,rs.length),(66,0)],esc:=0,T:=[],k:=0,O:=bif (lenT (List.take ((if (300:Int) < (↑rs.length:Int) then (300:Int) else (↑rs.length:Int)).toNat * 6) (List.drop 0 (rels rs)))).beq ((if (300:Int) < (↑rs.length:Int) then (300:Int) else (↑rs.length:Int)).toNat * 6) && oneC (List.take ((if (300:Int) < (↑rs.length:Int) then (300:Int) else (↑rs.length:Int)).toNat * 6) (List.drop 0 (rels rs))) && ((0+(if (300:Int) < (↑rs.length:Int) then (300:Int) else (↑rs.length:Int)).toNat) * 20).ble 1099511627776 && (0+(if (300:Int) < (↑rs.length:Int) then (300:Int) else (↑rs.length:Int)).toNat).blt 4611686018427387904 then bif hasN (0+(if (300:Int) < (↑rs.length:Int) then (300:Int) else (↑rs.length:Int)).toNat * 6) (rels rs) then bif decide ((0:Int) ≤ if (300:Int) < (↑rs.length:Int) then (300:Int) else (↑rs.length:Int)) && decide ((if (300:Int) < (↑rs.length:Int) then (300:Int) else (↑rs.length:Int)) ≤ (↑rs.length:Int)) then bif decide ((0:Int) ≤ if (20000:Int) < (↑(lenT data):Int) then (20000:Int) else (↑(lenT data):Int)) && decide ((if (20000:Int) < (↑(lenT data):Int) then (20000:Int) else (↑(lenT data):Int)) ≤ (↑(lenT data):Int)) then True else False else False else False else False : St }):=by kernel_rfl
theorem own_ell (pages stack types : Int) (data : List UInt8) (cs : List Nat) (rs : List Rl) (starts : List Nat) : evF Try.prog noBase noLoop 100 10 9 [Value.agg { toList:=[Value.int .i64 pages,.int .i64 stack,.int .i64 types,.slice (some { block:=64,off:=0,spot:=some 64 }) 0 (big+64),.string ⟨⟨data⟩⟩,.slice (some ⟨65,0,none⟩) rs.length (big+65),.slice (some ⟨66,0,none⟩) starts.length (big+66)] }] ⟨67,[(65,⟨false,some (0,0),rels rs,none⟩),(66,⟨false,some (0,0),u32s starts,none⟩)],[(64,0),(65,rs.length),(66,starts.length)],0,[],0,True⟩ = some (Value.agg ⟨[.int .i64 pages,.int .i64 stack,.int .i64 types,.slice (some ⟨70,0,none⟩) 0 9223372036854775878,.string ⟨⟨List.take ((if (20000:Int) < (↑(lenT data):Int) then (20000:Int) else (↑(lenT data):Int)).toNat - 0) (List.drop 0 data)⟩⟩,.slice (some ⟨72,0,none⟩) (0+(if (300:Int) < (↑rs.length:Int) then (300:Int) else (↑rs.length:Int)).toNat) 9223372036854775880,.slice (some ⟨74,0,none⟩) (0+(if (6:Int) < (↑starts.length:Int) then (6:Int) else (↑starts.length:Int)).toNat) 9223372036854775882]⟩,{ n:=75,h:=[(74,⟨true,some (74,1),List.take ((if (6:Int) < (↑starts.length:Int) then (6:Int) else (↑starts.length:Int)).toNat * 1) (List.drop 0 (u32s starts)),none⟩),(72,⟨true,some (72,6),List.take ((if (300:Int) < (↑rs.length:Int) then (300:Int) else (↑rs.length:Int)).toNat * 6) (List.drop 0 (rels rs)),none⟩),(70,⟨true,some (70,1),[],none⟩),(68,⟨true,none,[Value.int .i64 pages,.int .i64 stack,.int .i64 types,.slice (some ⟨70,0,none⟩) 0 9223372036854775878,.string ⟨⟨List.take ((if (20000:Int) < (↑(lenT data):Int) then (20000:Int) else (↑(lenT data):Int)).toNat - 0) (List.drop 0 data)⟩⟩,.slice (some ⟨72,0,none⟩) (0+(if (300:Int) < (↑rs.length:Int) then (300:Int) else (↑rs.length:Int)).toNat) 9223372036854775880,.slice (some ⟨74,0,none⟩) (0+(if (6:Int) < (↑starts.length:Int) then (6:Int) else (↑starts.length:Int)).toNat) 9223372036854775882],none⟩),(67,⟨true,none,[Value.int .i64 pages,.int .i64 stack,.int .i64 types,.slice (some ⟨70,0,none⟩) 0 9223372036854775878,.string ⟨⟨List.take ((if (20000:Int) < (↑(lenT data):Int) then (20000:Int) else (↑(lenT data):Int)).toNat - 0) (List.drop 0 data)⟩⟩,.slice (some ⟨72,0,none⟩) (0+(if (300:Int) < (↑rs.length:Int) then (300:Int) else (↑rs.length:Int)).toNat) 9223372036854775880,.slice (some ⟨74,0,none⟩) (0+(if (6:Int) < (↑starts.length:Int) then (6:Int) else (↑starts.length:Int)).toNat) 9223372036854775882],none⟩),(65,⟨false,some (0,0),rels rs,none⟩),(66,⟨false,some (0,0),u32s starts,none⟩)],lo:=[(74,0+(if (6:Int) < (↑starts.length:Int) then (6:Int) else (↑starts.length:Int)).toNat),(72,0+(if (300:Int) < (↑rs.length:Int) then (300:Int) else (↑rs.length:Int)).toNat),(70,0),(64,0),(65,rs.length),(66,starts.length)],esc:=0,T:=[],k:=0,O:=bif (lenT (List.take ((if (6:Int) < (↑starts.length:Int) then (6:Int) else (↑starts.length:Int)).toNat * 1) (List.drop 0 (u32s starts)))).beq ((if (6:Int) < (↑starts.length:Int) then (6:Int) else (↑starts.length:Int)).toNat * 1) && oneC (List.take ((if (6:Int) < (↑starts.length:Int) then (6:Int) else (↑starts.length:Int)).toNat * 1) (List.drop 0 (u32s starts))) && ((0+(if (6:Int) < (↑starts.length:Int) then (6:Int) else (↑starts.length:Int)).toNat) * 4).ble 1099511627776 && (0+(if (6:Int) < (↑starts.length:Int) then (6:Int) else (↑starts.length:Int)).toNat).blt 4611686018427387904 then bif hasN (0+(if (6:Int) < (↑starts.length:Int) then (6:Int) else (↑starts.length:Int)).toNat * 1) (u32s starts) then bif decide ((0:Int) ≤ if (6:Int) < (↑starts.length:Int) then (6:Int) else (↑starts.length:Int)) && decide ((if (6:Int) < (↑starts.length:Int) then (6:Int) else (↑starts.length:Int)) ≤ (↑starts.length:Int)) then bif (lenT (List.take ((if (300:Int) < (↑rs.length:Int) then (300:Int) else (↑rs.length:Int)).toNat * 6) (List.drop 0 (rels rs)))).beq ((if (300:Int) < (↑rs.length:Int) then (300:Int) else (↑rs.length:Int)).toNat * 6) && oneC (List.take ((if (300:Int) < (↑rs.length:Int) then (300:Int) else (↑rs.length:Int)).toNat * 6) (List.drop 0 (rels rs))) && ((0+(if (300:Int) < (↑rs.length:Int) then (300:Int) else (↑rs.length:Int)).toNat) * 20).ble 1099511627776 && (0+(if (300:Int) < (↑rs.length:Int) then (300:Int) else (↑rs.length:Int)).toNat).blt 4611686018427387904 then bif hasN (0+(if (300:Int) < (↑rs.length:Int) then (300:Int) else (↑rs.length:Int)).toNat * 6) (rels rs) then bif decide ((0:Int) ≤ if (300:Int) < (↑rs.length:Int) then (300:Int) else (↑rs.length:Int)) && decide ((if (300:Int) < (↑rs.length:Int) then (300:Int) else (↑rs.length:Int)) ≤ (↑rs.length:Int)) then bif decide ((0:Int) ≤ if (20000:Int) < (↑(lenT data):Int) then (20000:Int) else (↑(lenT data):Int)) && decide ((if (20000:Int) < (↑(lenT data):Int) then (20000:Int) else (↑(lenT data):Int)) ≤ (↑(lenT data):Int)) then True else False else False else False else False else False else False else False : St }):=by kernel_rfl
theorem own_lnn (pages stack types : Int) (data : List UInt8) (cs : List Nat) (rs : List Rl) (starts : List Nat) : evF Try.prog noBase noLoop 100 10 9 [Value.agg ⟨[.int .i64 pages,.int .i64 stack,.int .i64 types,.slice (some ⟨64,0,none⟩) cs.length (big+64),.string ⟨⟨data⟩⟩,.slice none 0 0,.slice none 0 0]⟩] ⟨67,[(64,⟨false,some (0,0),u32s cs,none⟩)],[(64,cs.length),(65,0),(66,0)],0,[],0,True⟩ = some (Value.agg ⟨[.int .i64 pages,.int .i64 stack,.int .i64 types,.slice (some ⟨70,0,none⟩) (0+(if (5000:Int) < (↑cs.length:Int) then (5000:Int) else (↑cs.length:Int)).toNat) 9223372036854775878,.string ⟨⟨List.take ((if (20000:Int) < (↑(lenT data):Int) then (20000:Int) else (↑(lenT data):Int)).toNat - 0) (List.drop 0 data)⟩⟩,.slice (some ⟨72,0,none⟩) 0 9223372036854775880,.slice (some ⟨74,0,none⟩) 0 9223372036854775882]⟩,{ n:=75,h:=[(74,⟨true,some (74,1),[],none⟩),(72,⟨true,some (72,6),[],none⟩),(70,⟨true,some (70,1),List.take ((if (5000:Int) < (↑cs.length:Int) then (5000:Int) else (↑cs.length:Int)).toNat * 1) (List.drop 0 (u32s cs)),none⟩),(68,⟨true,none,[Value.int .i64 pages,.int .i64 stack,.int .i64 types,.slice (some ⟨70,0,none⟩) (0+(if (5000:Int) < (↑cs.length:Int) then (5000:Int) else (↑cs.length:Int)).toNat) 9223372036854775878,.string ⟨⟨List.take ((if (20000:Int) < (↑(lenT data):Int) then (20000:Int) else (↑(lenT data):Int)).toNat - 0) (List.drop 0 data)⟩⟩,.slice (some ⟨72,0,none⟩) 0 9223372036854775880,.slice (some ⟨74,0,none⟩) 0 9223372036854775882],none⟩),(67,⟨true,none,[Value.int .i64 pages,.int .i64 stack,.int .i64 types,.slice (some ⟨70,0,none⟩) (0+(if (5000:Int) < (↑cs.length:Int) then (5000:Int) else (↑cs.length:Int)).toNat) 9223372036854775878,.string ⟨⟨List.take ((if (20000:Int) < (↑(lenT data):Int) then (20000:Int) else (↑(lenT data):Int)).toNat - 0) (List.drop 0 data)⟩⟩,.slice (some ⟨72,0,none⟩) 0 9223372036854775880,.slice (some ⟨74,0,none⟩) 0 9223372036854775882],none⟩),(64,⟨false,some (0,0),u32s cs,none⟩)],lo:=[(74,0),(72,0),(70,0+(if (5000:Int) < (↑cs.length:Int) then (5000:Int) else (↑cs.length:Int)).toNat),(64,cs.length),(65,0),(66,0)],esc:=0,T:=[],k:=0,O:=bif decide ((0:Int) ≤ if (20000:Int) < (↑(lenT data):Int) then (20000:Int) else (↑(lenT data):Int)) && decide ((if (20000:Int) < (↑(lenT data):Int) then (20000:Int) else (↑(lenT data):Int)) ≤ (↑(lenT data):Int)) then bif (lenT (List.take ((if (5000:Int) < (↑cs.length:Int) then (5000:Int) else (↑cs.length:Int)).toNat * 1) (List.drop 0 (u32s cs)))).beq ((if (5000:Int) < (↑cs.length:Int) then (5000:Int) else (↑cs.length:Int)).toNat * 1) && oneC (List.take ((if (5000:Int) < (↑cs.length:Int) then (5000:Int) else (↑cs.length:Int)).toNat * 1) (List.drop 0 (u32s cs))) && ((0+(if (5000:Int) < (↑cs.length:Int) then (5000:Int) else (↑cs.length:Int)).toNat) * 4).ble 1099511627776 && (0+(if (5000:Int) < (↑cs.length:Int) then (5000:Int) else (↑cs.length:Int)).toNat).blt 4611686018427387904 then bif hasN (0+(if (5000:Int) < (↑cs.length:Int) then (5000:Int) else (↑cs.length:Int)).toNat * 1) (u32s cs) then bif decide ((0:Int) ≤ if (5000:Int) < (↑cs.length:Int) then (5000:Int) else (↑cs.length:Int)) && decide ((if (5000:Int) < (↑cs.length:Int) then (5000:Int) else (↑cs.length:Int)) ≤ (↑cs.length:Int)) then True else False else False else False else False : St }):=by kernel_rfl
theorem own_lne (pages stack types : Int) (data : List UInt8) (cs : List Nat) (rs : List Rl) (starts : List Nat) : evF Try.prog noBase noLoop 100 10 9 [Value.agg { toList:=[Value.int .i64 pages,.int .i64 stack,.int .i64 types,.slice (some ⟨64,0,none⟩) cs.length (big+64),.string ⟨⟨data⟩⟩,.slice none 0 0,.slice (some { block:=66,off:=0,spot:=some 66 }) 0 (big+66)] }] ⟨67,[(64,⟨false,some (0,0),u32s cs,none⟩)],[(64,cs.length),(65,0),(66,0)],0,[],0,True⟩ = some (Value.agg ⟨[.int .i64 pages,.int .i64 stack,.int .i64 types,.slice (some ⟨70,0,none⟩) (0+(if (5000:Int) < (↑cs.length:Int) then (5000:Int) else (↑cs.length:Int)).toNat) 9223372036854775878,.string ⟨⟨List.take ((if (20000:Int) < (↑(lenT data):Int) then (20000:Int) else (↑(lenT data):Int)).toNat - 0) (List.drop 0 data)⟩⟩,.slice (some ⟨72,0,none⟩) 0 9223372036854775880,.slice (some ⟨74,0,none⟩) 0 9223372036854775882]⟩,{ n:=75,h:=[(74,⟨true,some (74,1),[],none⟩),(72,⟨true,some (72,6),[],none⟩),(70,⟨true,some (70,1),List.take ((if (5000:Int) < (↑cs.length:Int) then (5000:Int) else (↑cs.length:Int)).toNat * 1) (List.drop 0 (u32s cs)),none⟩),(68,⟨true,none,[Value.int .i64 pages,.int .i64 stack,.int .i64 types,.slice (some ⟨70,0,none⟩) (0+(if (5000:Int) < (↑cs.length:Int) then (5000:Int) else (↑cs.length:Int)).toNat) 9223372036854775878,.string ⟨⟨List.take ((if (20000:Int) < (↑(lenT data):Int) then (20000:Int) else (↑(lenT data):Int)).toNat - 0) (List.drop 0 data)⟩⟩,.slice (some ⟨72,0,none⟩) 0 9223372036854775880,.slice (some ⟨74,0,none⟩) 0 9223372036854775882],none⟩),(67,⟨true,none,[Value.int .i64 pages,.int .i64 stack,.int .i64 types,.slice (some ⟨70,0,none⟩) (0+(if (5000:Int) < (↑cs.length:Int) then (5000:Int) else (↑cs.length:Int)).toNat) 9223372036854775878,.string ⟨⟨List.take ((if (20000:Int) < (↑(lenT data):Int) then (20000:Int) else (↑(lenT data):Int)).toNat - 0) (List.drop 0 data)⟩⟩,.slice (some ⟨72,0,none⟩) 0 9223372036854775880,.slice (some ⟨74,0,none⟩) 0 9223372036854775882],none⟩),(64,⟨false,some (0,0),u32s cs,none⟩)],lo:=[(74,0),(72,0),(70,0+(if (5000:Int) < (↑cs.length:Int) then (5000:Int) else (↑cs.length:Int)).toNat),(64,cs.length),(65,0),(66,0)],esc:=0,T:=[],k:=0,O:=bif decide ((0:Int) ≤ if (20000:Int) < (↑(lenT data):Int) then (20000:Int) else (↑(lenT data):Int)) && decide ((if (20000:Int) < (↑(lenT data):Int) then (20000:Int) else (↑(lenT data):Int)) ≤ (↑(lenT data):Int)) then bif (lenT (List.take ((if (5000:Int) < (↑cs.length:Int) then (5000:Int) else (↑cs.length:Int)).toNat * 1) (List.drop 0 (u32s cs)))).beq ((if (5000:Int) < (↑cs.length:Int) then (5000:Int) else (↑cs.length:Int)).toNat * 1) && oneC (List.take ((if (5000:Int) < (↑cs.length:Int) then (5000:Int) else (↑cs.length:Int)).toNat * 1) (List.drop 0 (u32s cs))) && ((0+(if (5000:Int) < (↑cs.length:Int) then (5000:Int) else (↑cs.length:Int)).toNat) * 4).ble 1099511627776 && (0+(if (5000:Int) < (↑cs.length:Int) then (5000:Int) else (↑cs.length:Int)).toNat).blt 4611686018427387904 then bif hasN (0+(if (5000:Int) < (↑cs.length:Int) then (5000:Int) else (↑cs.length:Int)).toNat * 1) (u32s cs) then bif decide ((0:Int) ≤ if (5000:Int) < (↑cs.length:Int) then (5000:Int) else (↑cs.length:Int)) && decide ((if (5000:Int) < (↑cs.length:Int) then (5000:Int) else (↑cs.length:Int)) ≤ (↑cs.length:Int)) then True else False else False else False else False : St }):=by kernel_rfl
theorem own_lnl (pages stack types : Int) (data : List UInt8) (cs : List Nat) (rs : List Rl) (starts : List Nat) : evF Try.prog noBase noLoop 100 10 9 [Value.agg ⟨[.int .i64 pages,.int .i64 stack,.int .i64 types,.slice (some ⟨64,0,none⟩) cs.length (big+64),.string ⟨⟨data⟩⟩,.slice none 0 0,.slice (some ⟨66,0,none⟩) starts.length (big+66)]⟩] ⟨67,[(64,⟨false,some (0,0),u32s cs,none⟩),(66,⟨false,some (0,0),u32s starts,none⟩)],[(64,cs.length),(65,0),(66,starts.length)],0,[],0,True⟩ = some (Value.agg ⟨[.int .i64 pages,.int .i64 stack,.int .i64 types,.slice (some ⟨70,0,none⟩) (0+(if (5000:Int) < (↑cs.length:Int) then (5000:Int) else (↑cs.length:Int)).toNat) 9223372036854775878,.string ⟨⟨List.take ((if (20000:Int) < (↑(lenT data):Int) then (20000:Int) else (↑(lenT data):Int)).toNat - 0) (List.drop 0 data)⟩⟩,.slice (some ⟨72,0,none⟩) 0 9223372036854775880,.slice (some ⟨74,0,none⟩) (0+(if (6:Int) < (↑starts.length:Int) then (6:Int) else (↑starts.length:Int)).toNat) 9223372036854775882]⟩,{ n:=75,h:=[(74,⟨true,some (74,1),List.take ((if (6:Int) < (↑starts.length:Int) then (6:Int) else (↑starts.length:Int)).toNat * 1) (List.drop 0 (u32s starts)),none⟩),(72,⟨true,some (72,6),[],none⟩),(70,⟨true,some (70,1),List.take ((if (5000:Int) < (↑cs.length:Int) then (5000:Int) else (↑cs.length:Int)).toNat * 1) (List.drop 0 (u32s cs)),none⟩),(68,⟨true,none,[Value.int .i64 pages,.int .i64 stack,.int .i64 types,.slice (some ⟨70,0,none⟩) (0+(if (5000:Int) < (↑cs.length:Int) then (5000:Int) else (↑cs.length:Int)).toNat) 9223372036854775878,.string ⟨⟨List.take ((if (20000:Int) < (↑(lenT data):Int) then (20000:Int) else (↑(lenT data):Int)).toNat - 0) (List.drop 0 data)⟩⟩,.slice (some ⟨72,0,none⟩) 0 9223372036854775880,.slice (some ⟨74,0,none⟩) (0+(if (6:Int) < (↑starts.length:Int) then (6:Int) else (↑starts.length:Int)).toNat) 9223372036854775882],none⟩),(67,⟨true,none,[Value.int .i64 pages,.int .i64 stack,.int .i64 types,.slice (some ⟨70,0,none⟩) (0+(if (5000:Int) < (↑cs.length:Int) then (5000:Int) else (↑cs.length:Int)).toNat) 9223372036854775878,.string ⟨⟨List.take ((if (20000:Int) < (↑(lenT data):Int) then (20000:Int) else (↑(lenT data):Int)).toNat - 0) (List.drop 0 data)⟩⟩,.slice (some ⟨72,0,none⟩) 0 9223372036854775880,.slice (some ⟨74,0,none⟩) (0+(if (6:Int) < (↑starts.length:Int) then (6:Int) else (↑starts.length:Int)).toNat) 9223372036854775882],none⟩),(64,⟨false,some (0,0),u32s cs,none⟩),(66,⟨false,some (0,0),u32s starts,none⟩)],lo:=[(74,0+(if (6:Int) < (↑starts.length:Int) then (6:Int) else (↑starts.length:Int)).toNat),(72,0),(70,0+(if (5000:Int) < (↑cs.length:Int) then (5000:Int) else (↑cs.length:Int)).toNat),(64,cs.length),(65,0),(66,starts.length)],esc:=0,T:=[],k:=0,O:=bif (lenT (List.take ((if (6:Int) < (↑starts.length:Int) then (6:Int) else (↑starts.length:Int)).toNat * 1) (List.drop 0 (u32s starts)))).beq ((if (6:Int) < (↑starts.length:Int) then (6:Int) else (↑starts.length:Int)).toNat * 1) && oneC (List.take ((if (6:Int) < (↑starts.length:Int) then (6:Int) else (↑starts.length:Int)).toNat * 1) (List.drop 0 (u32s starts))) && ((0+(if (6:Int) < (↑starts.length:Int) then (6:Int) else (↑starts.length:Int)).toNat) * 4).ble 1099511627776 && (0+(if (6:Int) < (↑starts.length:Int) then (6:Int) else (↑starts.length:Int)).toNat).blt 4611686018427387904 then bif hasN (0+(if (6:Int) < (↑starts.length:Int) then (6:Int) else (↑starts.length:Int)).toNat * 1) (u32s starts) then bif decide ((0:Int) ≤ if (6:Int) < (↑starts.length:Int) then (6:Int) else (↑starts.length:Int)) && decide ((if (6:Int) < (↑starts.length:Int) then (6:Int) else (↑starts.length:Int)) ≤ (↑starts.length:Int)) then bif decide ((0:Int) ≤ if (20000:Int) < (↑(lenT data):Int) then (20000:Int) else (↑(lenT data):Int)) && decide ((if (20000:Int) < (↑(lenT data):Int) then (20000:Int) else (↑(lenT data):Int)) ≤ (↑(lenT data):Int)) then bif (lenT (List.take ((if (5000:Int) < (↑cs.length:Int) then (5000:Int) else (↑cs.length:Int)).toNat * 1) (List.drop 0 (u32s cs)))).beq ((if (5000:Int) < (↑cs.length:Int) then (5000:Int) else (↑cs.length:Int)).toNat * 1) && oneC (List.take ((if (5000:Int) < (↑cs.length:Int) then (5000:Int) else (↑cs.length:Int)).toNat * 1) (List.drop 0 (u32s cs))) && ((0+(if (5000:Int) < (↑cs.length:Int) then (5000:Int) else (↑cs.length:Int)).toNat) * 4).ble 1099511627776 && (0+(if (5000:Int) < (↑cs.length:Int) then (5000:Int) else (↑cs.length:Int)).toNat).blt 4611686018427387904 then bif hasN (0+(if (5000:Int) < (↑cs.length:Int) then (5000:Int) else (↑cs.length:Int)).toNat * 1) (u32s cs) then bif decide ((0:Int) ≤ if (5000:Int) < (↑cs.length:Int) then (5000:Int) else (↑cs.length:Int)) && decide ((if (5000:Int) < (↑cs.length:Int) then (5000:Int) else (↑cs.length:Int)) ≤ (↑cs.length:Int)) then True else False else False else False else False else False else False else False : St }):=by kernel_rfl
theorem own_len (pages stack types : Int) (data : List UInt8) (cs : List Nat) (rs : List Rl) (starts : List Nat) : evF Try.prog noBase noLoop 100 10 9 [Value.agg { toList:=[Value.int .i64 pages,.int .i64 stack,.int .i64 types,.slice (some ⟨64,0,none⟩) cs.length (big+64),.string ⟨⟨data⟩⟩,.slice (some { block:=65,off:=0,spot:=some 65 }) 0 (big+65),.slice none 0 0] }] ⟨67,[(64,⟨false,some (0,0),u32s cs,none⟩)],[(64,cs.length),(65,0),(66,0)],0,[],0,True⟩ = some (Value.agg ⟨[.int .i64 pages,.int .i64 stack,.int .i64 types,.slice (some ⟨70,0,none⟩) (0+(if (5000:Int) < (↑cs.length:Int) then (5000:Int) else (↑cs.length:Int)).toNat) 9223372036854775878,.string ⟨⟨List.take ((if (20000:Int) < (↑(lenT data):Int) then (20000:Int) else (↑(lenT data):Int)).toNat - 0) (List.drop 0 data)⟩⟩,.slice (some ⟨72,0,none⟩) 0 9223372036854775880,.slice (some ⟨74,0,none⟩) 0 9223372036854775882]⟩,{ n:=75,h:=[(74,⟨true,some (74,1),[],none⟩),(72,⟨true,some (72,6),[],none⟩),(70,⟨true,some (70,1),List.take ((if (5000:Int) < (↑cs.length:Int) then (5000:Int) else (↑cs.length:Int)).toNat * 1) (List.drop 0 (u32s cs)),none⟩),(68,⟨true,none,[Value.int .i64 pages,.int .i64 stack,.int .i64 types,.slice (some ⟨70,0,none⟩) (0+(if (5000:Int) < (↑cs.length:Int) then (5000:Int) else (↑cs.length:Int)).toNat) 9223372036854775878,.string ⟨⟨List.take ((if (20000:Int) < (↑(lenT data):Int) then (20000:Int) else (↑(lenT data):Int)).toNat - 0) (List.drop 0 data)⟩⟩,.slice (some ⟨72,0,none⟩) 0 9223372036854775880,.slice (some ⟨74,0,none⟩) 0 9223372036854775882],none⟩),(67,⟨true,none,[Value.int .i64 pages,.int .i64 stack,.int .i64 types,.slice (some ⟨70,0,none⟩) (0+(if (5000:Int) < (↑cs.length:Int) then (5000:Int) else (↑cs.length:Int)).toNat) 9223372036854775878,.string ⟨⟨List.take ((if (20000:Int) < (↑(lenT data):Int) then (20000:Int) else (↑(lenT data):Int)).toNat - 0) (List.drop 0 data)⟩⟩,.slice (some ⟨72,0,none⟩) 0 9223372036854775880,.slice (some ⟨74,0,none⟩) 0 9223372036854775882],none⟩),(64,⟨false,some (0,0),u32s cs,none⟩)],lo:=[(74,0),(72,0),(70,0+(if (5000:Int) < (↑cs.length:Int) then (5000:Int) else (↑cs.length:Int)).toNat),(64,cs.length),(65,0),(66,0)],esc:=0,T:=[],k:=0,O:=bif decide ((0:Int) ≤ if (20000:Int) < (↑(lenT data):Int) then (20000:Int) else (↑(lenT data):Int)) && decide ((if (20000:Int) < (↑(lenT data):Int) then (20000:Int) else (↑(lenT data):Int)) ≤ (↑(lenT data):Int)) then bif (lenT (List.take ((if (5000:Int) < (↑cs.length:Int) then (5000:Int) else (↑cs.length:Int)).toNat * 1) (List.drop 0 (u32s cs)))).beq ((if (5000:Int) < (↑cs.length:Int) then (5000:Int) else (↑cs.length:Int)).toNat * 1) && oneC (List.take ((if (5000:Int) < (↑cs.length:Int) then (5000:Int) else (↑cs.length:Int)).toNat * 1) (List.drop 0 (u32s cs))) && ((0+(if (5000:Int) < (↑cs.length:Int) then (5000:Int) else (↑cs.length:Int)).toNat) * 4).ble 1099511627776 && (0+(if (5000:Int) < (↑cs.length:Int) then (5000:Int) else (↑cs.length:Int)).toNat).blt 4611686018427387904 then bif hasN (0+(if (5000:Int) < (↑cs.length:Int) then (5000:Int) else (↑cs.length:Int)).toNat * 1) (u32s cs) then bif decide ((0:Int) ≤ if (5000:Int) < (↑cs.length:Int) then (5000:Int) else (↑cs.length:Int)) && decide ((if (5000:Int) < (↑cs.length:Int) then (5000:Int) else (↑cs.length:Int)) ≤ (↑cs.length:Int)) then True else False else False else False else False : St }):=by kernel_rfl
theorem own_lee (pages stack types : Int) (data : List UInt8) (cs : List Nat) (rs : List Rl) (starts : List Nat) : evF Try.prog noBase noLoop 100 10 9 [Value.agg { toList:=[Value.int .i64 pages,.int .i64 stack,.int .i64 types,.slice (some ⟨64,0,none⟩) cs.length (big+64),.string ⟨⟨data⟩⟩,.slice (some { block:=65,off:=0,spot:=some 65 }) 0 (big+65),.slice (some { block:=66,off:=0,spot:=some 66 }) 0 (big+66)] }] ⟨67,[(64,⟨false,some (0,0),u32s cs,none⟩)],[(64,cs.length),(65,0),(66,0)],0,[],0,True⟩ = some (Value.agg ⟨[.int .i64 pages,.int .i64 stack,.int .i64 types,.slice (some ⟨70,0,none⟩) (0+(if (5000:Int) < (↑cs.length:Int) then (5000:Int) else (↑cs.length:Int)).toNat) 9223372036854775878,.string ⟨⟨List.take ((if (20000:Int) < (↑(lenT data):Int) then (20000:Int) else (↑(lenT data):Int)).toNat - 0) (List.drop 0 data)⟩⟩,.slice (some ⟨72,0,none⟩) 0 9223372036854775880,.slice (some ⟨74,0,none⟩) 0 9223372036854775882]⟩,{ n:=75,h:=[(74,⟨true,some (74,1),[],none⟩),(72,⟨true,some (72,6),[],none⟩),(70,⟨true,some (70,1),List.take ((if (5000:Int) < (↑cs.length:Int) then (5000:Int) else (↑cs.length:Int)).toNat * 1) (List.drop 0 (u32s cs)),none⟩),(68,⟨true,none,[Value.int .i64 pages,.int .i64 stack,.int .i64 types,.slice (some ⟨70,0,none⟩) (0+(if (5000:Int) < (↑cs.length:Int) then (5000:Int) else (↑cs.length:Int)).toNat) 9223372036854775878,.string ⟨⟨List.take ((if (20000:Int) < (↑(lenT data):Int) then (20000:Int) else (↑(lenT data):Int)).toNat - 0) (List.drop 0 data)⟩⟩,.slice (some ⟨72,0,none⟩) 0 9223372036854775880,.slice (some ⟨74,0,none⟩) 0 9223372036854775882],none⟩),(67,⟨true,none,[Value.int .i64 pages,.int .i64 stack,.int .i64 types,.slice (some ⟨70,0,none⟩) (0+(if (5000:Int) < (↑cs.length:Int) then (5000:Int) else (↑cs.length:Int)).toNat) 9223372036854775878,.string ⟨⟨List.take ((if (20000:Int) < (↑(lenT data):Int) then (20000:Int) else (↑(lenT data):Int)).toNat - 0) (List.drop 0 data)⟩⟩,.slice (some ⟨72,0,none⟩) 0 9223372036854775880,.slice (some ⟨74,0,none⟩) 0 9223372036854775882],none⟩),(64,⟨false,some (0,0),u32s cs,none⟩)],lo:=[(74,0),(72,0),(70,0+(if (5000:Int) < (↑cs.length:Int) then (5000:Int) else (↑cs.length:Int)).toNat),(64,cs.length),(65,0),(66,0)],esc:=0,T:=[],k:=0,O:=bif decide ((0:Int) ≤ if (20000:Int) < (↑(lenT data):Int) then (20000:Int) else (↑(lenT data):Int)) && decide ((if (20000:Int) < (↑(lenT data):Int) then (20000:Int) else (↑(lenT data):Int)) ≤ (↑(lenT data):Int)) then bif (lenT (List.take ((if (5000:Int) < (↑cs.length:Int) then (5000:Int) else (↑cs.length:Int)).toNat * 1) (List.drop 0 (u32s cs)))).beq ((if (5000:Int) < (↑cs.length:Int) then (5000:Int) else (↑cs.length:Int)).toNat * 1) && oneC (List.take ((if (5000:Int) < (↑cs.length:Int) then (5000:Int) else (↑cs.length:Int)).toNat * 1) (List.drop 0 (u32s cs))) && ((0+(if (5000:Int) < (↑cs.length:Int) then (5000:Int) else (↑cs.length:Int)).toNat) * 4).ble 1099511627776 && (0+(if (5000:Int) < (↑cs.length:Int) then (5000:Int) else (↑cs.length:Int)).toNat).blt 4611686018427387904 then bif hasN (0+(if (5000:Int) < (↑cs.length:Int) then (5000:Int) else (↑cs.length:Int)).toNat * 1) (u32s cs) then bif decide ((0:Int) ≤ if (5000:Int) < (↑cs.length:Int) then (5000:Int) else (↑cs.length:Int)) && decide ((if (5000:Int) < (↑cs.length:Int) then (5000:Int) else (↑cs.length:Int)) ≤ (↑cs.length:Int)) then True else False else False else False else False : St }):=by kernel_rfl
theorem own_lel (pages stack types : Int) (data : List UInt8) (cs : List Nat) (rs : List Rl) (starts : List Nat) : evF Try.prog noBase noLoop 100 10 9 [Value.agg { toList:=[Value.int .i64 pages,.int .i64 stack,.int .i64 types,.slice (some ⟨64,0,none⟩) cs.length (big+64),.string ⟨⟨data⟩⟩,.slice (some { block:=65,off:=0,spot:=some 65 }) 0 (big+65),.slice (some ⟨66,0,none⟩) starts.length (big+66)] }] ⟨67,[(64,⟨false,some (0,0),u32s cs,none⟩),(66,⟨false,some (0,0),u32s starts,none⟩)],[(64,cs.length),(65,0),(66,starts.length)],0,[],0,True⟩ = some (Value.agg ⟨[.int .i64 pages,.int .i64 stack,.int .i64 types,.slice (some ⟨70,0,none⟩) (0+(if (5000:Int) < (↑cs.length:Int) then (5000:Int) else (↑cs.length:Int)).toNat) 9223372036854775878,.string ⟨⟨List.take ((if (20000:Int) < (↑(lenT data):Int) then (20000:Int) else (↑(lenT data):Int)).toNat - 0) (List.drop 0 data)⟩⟩,.slice (some ⟨72,0,none⟩) 0 9223372036854775880,.slice (some ⟨74,0,none⟩) (0+(if (6:Int) < (↑starts.length:Int) then (6:Int) else (↑starts.length:Int)).toNat) 9223372036854775882]⟩,{ n:=75,h:=[(74,⟨true,some (74,1),List.take ((if (6:Int) < (↑starts.length:Int) then (6:Int) else (↑starts.length:Int)).toNat * 1) (List.drop 0 (u32s starts)),none⟩),(72,⟨true,some (72,6),[],none⟩),(70,⟨true,some (70,1),List.take ((if (5000:Int) < (↑cs.length:Int) then (5000:Int) else (↑cs.length:Int)).toNat * 1) (List.drop 0 (u32s cs)),none⟩),(68,⟨true,none,[Value.int .i64 pages,.int .i64 stack,.int .i64 types,.slice (some ⟨70,0,none⟩) (0+(if (5000:Int) < (↑cs.length:Int) then (5000:Int) else (↑cs.length:Int)).toNat) 9223372036854775878,.string ⟨⟨List.take ((if (20000:Int) < (↑(lenT data):Int) then (20000:Int) else (↑(lenT data):Int)).toNat - 0) (List.drop 0 data)⟩⟩,.slice (some ⟨72,0,none⟩) 0 9223372036854775880,.slice (some ⟨74,0,none⟩) (0+(if (6:Int) < (↑starts.length:Int) then (6:Int) else (↑starts.length:Int)).toNat) 9223372036854775882],none⟩),(67,⟨true,none,[Value.int .i64 pages,.int .i64 stack,.int .i64 types,.slice (some ⟨70,0,none⟩) (0+(if (5000:Int) < (↑cs.length:Int) then (5000:Int) else (↑cs.length:Int)).toNat) 9223372036854775878,.string ⟨⟨List.take ((if (20000:Int) < (↑(lenT data):Int) then (20000:Int) else (↑(lenT data):Int)).toNat - 0) (List.drop 0 data)⟩⟩,.slice (some ⟨72,0,none⟩) 0 9223372036854775880,.slice (some ⟨74,0,none⟩) (0+(if (6:Int) < (↑starts.length:Int) then (6:Int) else (↑starts.length:Int)).toNat) 9223372036854775882],none⟩),(64,⟨false,some (0,0),u32s cs,none⟩),(66,⟨false,some (0,0),u32s starts,none⟩)],lo:=[(74,0+(if (6:Int) < (↑starts.length:Int) then (6:Int) else (↑starts.length:Int)).toNat),(72,0),(70,0+(if (5000:Int) < (↑cs.length:Int) then (5000:Int) else (↑cs.length:Int)).toNat),(64,cs.length),(65,0),(66,starts.length)],esc:=0,T:=[],k:=0,O:=bif (lenT (List.take ((if (6:Int) < (↑starts.length:Int) then (6:Int) else (↑starts.length:Int)).toNat * 1) (List.drop 0 (u32s starts)))).beq ((if (6:Int) < (↑starts.length:Int) then (6:Int) else (↑starts.length:Int)).toNat * 1) && oneC (List.take ((if (6:Int) < (↑starts.length:Int) then (6:Int) else (↑starts.length:Int)).toNat * 1) (List.drop 0 (u32s starts))) && ((0+(if (6:Int) < (↑starts.length:Int) then (6:Int) else (↑starts.length:Int)).toNat) * 4).ble 1099511627776 && (0+(if (6:Int) < (↑starts.length:Int) then (6:Int) else (↑starts.length:Int)).toNat).blt 4611686018427387904 then bif hasN (0+(if (6:Int) < (↑starts.length:Int) then (6:Int) else (↑starts.length:Int)).toNat * 1) (u32s starts) then bif decide ((0:Int) ≤ if (6:Int) < (↑starts.length:Int) then (6:Int) else (↑starts.length:Int)) && decide ((if (6:Int) < (↑starts.length:Int) then (6:Int) else (↑starts.length:Int)) ≤ (↑starts.length:Int)) then bif decide ((0:Int) ≤ if (20000:Int) < (↑(lenT data):Int) then (20000:Int) else (↑(lenT data):Int)) && decide ((if (20000:Int) < (↑(lenT data):Int) then (20000:Int) else (↑(lenT data):Int)) ≤ (↑(lenT data):Int)) then bif (lenT (List.take ((if (5000:Int) < (↑cs.length:Int) then (5000:Int) else (↑cs.length:Int)).toNat * 1) (List.drop 0 (u32s cs)))).beq ((if (5000:Int) < (↑cs.length:Int) then (5000:Int) else (↑cs.length:Int)).toNat * 1) && oneC (List.take ((if (5000:Int) < (↑cs.length:Int) then (5000:Int) else (↑cs.length:Int)).toNat * 1) (List.drop 0 (u32s cs))) && ((0+(if (5000:Int) < (↑cs.length:Int) then (5000:Int) else (↑cs.length:Int)).toNat) * 4).ble 1099511627776 && (0+(if (5000:Int) < (↑cs.length:Int) then (5000:Int) else (↑cs.length:Int)).toNat).blt 4611686018427387904 then bif hasN (0+(if (5000:Int) < (↑cs.length:Int) then (5000:Int) else (↑cs.length:Int)).toNat * 1) (u32s cs) then bif decide ((0:Int) ≤ if (5000:Int) < (↑cs.length:Int) then (5000:Int) else (↑cs.length:Int)) && decide ((if (5000:Int) < (↑cs.length:Int) then (5000:Int) else (↑cs.length:Int)) ≤ (↑cs.length:Int)) then True else False else False else False else False else False else False else False : St }):=by kernel_rfl
theorem own_lln (pages stack types : Int) (data : List UInt8) (cs : List Nat) (rs : List Rl) (starts : List Nat) : evF Try.prog noBase noLoop 100 10 9 [Value.agg ⟨[.int .i64 pages,.int .i64 stack,.int .i64 types,.slice (some ⟨64,0,none⟩) cs.length (big+64),.string ⟨⟨data⟩⟩,.slice (some ⟨65,0,none⟩) rs.length (big+65),.slice none 0 0]⟩] ⟨67,[(64,⟨false,some (0,0),u32s cs,none⟩),(65,⟨false,some (0,0),rels rs,none⟩)],[(64,cs.length),(65,rs.length),(66,0)],0,[],0,True⟩ = some (Value.agg ⟨[.int .i64 pages,.int .i64 stack,.int .i64 types,.slice (some ⟨70,0,none⟩) (0+(if (5000:Int) < (↑cs.length:Int) then (5000:Int) else (↑cs.length:Int)).toNat) 9223372036854775878,.string ⟨⟨List.take ((if (20000:Int) < (↑(lenT data):Int) then (20000:Int) else (↑(lenT data):Int)).toNat - 0) (List.drop 0 data)⟩⟩,.slice (some ⟨72,0,none⟩) (0+(if (300:Int) < (↑rs.length:Int) then (300:Int) else (↑rs.length:Int)).toNat) 9223372036854775880,.slice (some ⟨74,0,none⟩) 0 9223372036854775882]⟩,{ n:=75,h:=[(74,⟨true,some (74,1),[],none⟩),(72,⟨true,some (72,6),List.take ((if (300:Int) < (↑rs.length:Int) then (300:Int) else (↑rs.length:Int)).toNat * 6) (List.drop 0 (rels rs)),none⟩),(70,⟨true,some (70,1),List.take ((if (5000:Int) < (↑cs.length:Int) then (5000:Int) else (↑cs.length:Int)).toNat * 1) (List.drop 0 (u32s cs)),none⟩),(68,⟨true,none,[Value.int .i64 pages,.int .i64 stack,.int .i64 types,.slice (some ⟨70,0,none⟩) (0+(if (5000:Int) < (↑cs.length:Int) then (5000:Int) else (↑cs.length:Int)).toNat) 9223372036854775878,.string ⟨⟨List.take ((if (20000:Int) < (↑(lenT data):Int) then (20000:Int) else (↑(lenT data):Int)).toNat - 0) (List.drop 0 data)⟩⟩,.slice (some ⟨72,0,none⟩) (0+(if (300:Int) < (↑rs.length:Int) then (300:Int) else (↑rs.length:Int)).toNat) 9223372036854775880,.slice (some ⟨74,0,none⟩) 0 9223372036854775882],none⟩),(67,⟨true,none,[Value.int .i64 pages,.int .i64 stack,.int .i64 types,.slice (some ⟨70,0,none⟩) (0+(if (5000:Int) < (↑cs.length:Int) then (5000:Int) else (↑cs.length:Int)).toNat) 9223372036854775878,.string ⟨⟨List.take ((if (20000:Int) < (↑(lenT data):Int) then (20000:Int) else (↑(lenT data):Int)).toNat - 0) (List.drop 0 data)⟩⟩,.slice (some ⟨72,0,none⟩) (0+(if (300:Int) < (↑rs.length:Int) then (300:Int) else (↑rs.length:Int)).toNat) 9223372036854775880,.slice (some ⟨74,0,none⟩) 0 9223372036854775882],none⟩),(64,⟨false,some (0,0),u32s cs,none⟩),(65,⟨false,some (0,0),rels rs,none⟩)],lo:=[(74,0),(72,0+(if (300:Int) < (↑rs.length:Int) then (300:Int) else (↑rs.length:Int)).toNat),(70,0+(if (5000:Int) < (↑cs.length:Int) then (5000:Int) else (↑cs.length:Int)).toNat),(64,cs.length),(65,rs.length),(66,0)],esc:=0,T:=[],k:=0,O:=bif (lenT (List.take ((if (300:Int) < (↑rs.length:Int) then (300:Int) else (↑rs.length:Int)).toNat * 6) (List.drop 0 (rels rs)))).beq ((if (300:Int) < (↑rs.length:Int) then (300:Int) else (↑rs.length:Int)).toNat * 6) && oneC (List.take ((if (300:Int) < (↑rs.length:Int) then (300:Int) else (↑rs.length:Int)).toNat * 6) (List.drop 0 (rels rs))) && ((0+(if (300:Int) < (↑rs.length:Int) then (300:Int) else (↑rs.length:Int)).toNat) * 20).ble 1099511627776 && (0+(if (300:Int) < (↑rs.length:Int) then (300:Int) else (↑rs.length:Int)).toNat).blt 4611686018427387904 then bif hasN (0+(if (300:Int) < (↑rs.length:Int) then (300:Int) else (↑rs.length:Int)).toNat * 6) (rels rs) then bif decide ((0:Int) ≤ if (300:Int) < (↑rs.length:Int) then (300:Int) else (↑rs.length:Int)) && decide ((if (300:Int) < (↑rs.length:Int) then (300:Int) else (↑rs.length:Int)) ≤ (↑rs.length:Int)) then bif decide ((0:Int) ≤ if (20000:Int) < (↑(lenT data):Int) then (20000:Int) else (↑(lenT data):Int)) && decide ((if (20000:Int) < (↑(lenT data):Int) then (20000:Int) else (↑(lenT data):Int)) ≤ (↑(lenT data):Int)) then bif (lenT (List.take ((if (5000:Int) < (↑cs.length:Int) then (5000:Int) else (↑cs.length:Int)).toNat * 1) (List.drop 0 (u32s cs)))).beq ((if (5000:Int) < (↑cs.length:Int) then (5000:Int) else (↑cs.length:Int)).toNat * 1) && oneC (List.take ((if (5000:Int) < (↑cs.length:Int) then (5000:Int) else (↑cs.length:Int)).toNat * 1) (List.drop 0 (u32s cs))) && ((0+(if (5000:Int) < (↑cs.length:Int) then (5000:Int) else (↑cs.length:Int)).toNat) * 4).ble 1099511627776 && (0+(if (5000:Int) < (↑cs.length:Int) then (5000:Int) else (↑cs.length:Int)).toNat).blt 4611686018427387904 then bif hasN (0+(if (5000:Int) < (↑cs.length:Int) then (5000:Int) else (↑cs.length:Int)).toNat * 1) (u32s cs) then bif decide ((0:Int) ≤ if (5000:Int) < (↑cs.length:Int) then (5000:Int) else (↑cs.length:Int)) && decide ((if (5000:Int) < (↑cs.length:Int) then (5000:Int) else (↑cs.length:Int)) ≤ (↑cs.length:Int)) then True else False else False else False else False else False else False else False : St }):=by kernel_rfl
theorem own_lle (pages stack types : Int) (data : List UInt8) (cs : List Nat) (rs : List Rl) (starts : List Nat) : evF Try.prog noBase noLoop 100 10 9 [Value.agg { toList:=[Value.int .i64 pages,.int .i64 stack,.int .i64 types,.slice (some ⟨64,0,none⟩) cs.length (big+64),.string ⟨⟨data⟩⟩,.slice (some ⟨65,0,none⟩) rs.length (big+65),.slice (some { block:=66,off:=0,spot:=some 66 }) 0 (big+66)] }] ⟨67,[(64,⟨false,some (0,0),u32s cs,none⟩),(65,⟨false,some (0,0),rels rs,none⟩)],[(64,cs.length),(65,rs.length),(66,0)],0,[],0,True⟩ = some (Value.agg ⟨[.int .i64 pages,.int .i64 stack,.int .i64 types,.slice (some ⟨70,0,none⟩) (0+(if (5000:Int) < (↑cs.length:Int) then (5000:Int) else (↑cs.length:Int)).toNat) 9223372036854775878,.string ⟨⟨List.take ((if (20000:Int) < (↑(lenT data):Int) then (20000:Int) else (↑(lenT data):Int)).toNat - 0) (List.drop 0 data)⟩⟩,.slice (some ⟨72,0,none⟩) (0+(if (300:Int) < (↑rs.length:Int) then (300:Int) else (↑rs.length:Int)).toNat) 9223372036854775880,.slice (some ⟨74,0,none⟩) 0 9223372036854775882]⟩,{ n:=75,h:=[(74,⟨true,some (74,1),[],none⟩),(72,⟨true,some (72,6),List.take ((if (300:Int) < (↑rs.length:Int) then (300:Int) else (↑rs.length:Int)).toNat * 6) (List.drop 0 (rels rs)),none⟩),(70,⟨true,some (70,1),List.take ((if (5000:Int) < (↑cs.length:Int) then (5000:Int) else (↑cs.length:Int)).toNat * 1) (List.drop 0 (u32s cs)),none⟩),(68,⟨true,none,[Value.int .i64 pages,.int .i64 stack,.int .i64 types,.slice (some ⟨70,0,none⟩) (0+(if (5000:Int) < (↑cs.length:Int) then (5000:Int) else (↑cs.length:Int)).toNat) 9223372036854775878,.string ⟨⟨List.take ((if (20000:Int) < (↑(lenT data):Int) then (20000:Int) else (↑(lenT data):Int)).toNat - 0) (List.drop 0 data)⟩⟩,.slice (some ⟨72,0,none⟩) (0+(if (300:Int) < (↑rs.length:Int) then (300:Int) else (↑rs.length:Int)).toNat) 9223372036854775880,.slice (some ⟨74,0,none⟩) 0 9223372036854775882],none⟩),(67,⟨true,none,[Value.int .i64 pages,.int .i64 stack,.int .i64 types,.slice (some ⟨70,0,none⟩) (0+(if (5000:Int) < (↑cs.length:Int) then (5000:Int) else (↑cs.length:Int)).toNat) 9223372036854775878,.string ⟨⟨List.take ((if (20000:Int) < (↑(lenT data):Int) then (20000:Int) else (↑(lenT data):Int)).toNat - 0) (List.drop 0 data)⟩⟩,.slice (some ⟨72,0,none⟩) (0+(if (300:Int) < (↑rs.length:Int) then (300:Int) else (↑rs.length:Int)).toNat) 9223372036854775880,.slice (some ⟨74,0,none⟩) 0 9223372036854775882],none⟩),(64,⟨false,some (0,0),u32s cs,none⟩),(65,⟨false,some (0,0),rels rs,none⟩)],lo:=[(74,0),(72,0+(if (300:Int) < (↑rs.length:Int) then (300:Int) else (↑rs.length:Int)).toNat),(70,0+(if (5000:Int) < (↑cs.length:Int) then (5000:Int) else (↑cs.length:Int)).toNat),(64,cs.length),(65,rs.length),(66,0)],esc:=0,T:=[],k:=0,O:=bif (lenT (List.take ((if (300:Int) < (↑rs.length:Int) then (300:Int) else (↑rs.length:Int)).toNat * 6) (List.drop 0 (rels rs)))).beq ((if (300:Int) < (↑rs.length:Int) then (300:Int) else (↑rs.length:Int)).toNat * 6) && oneC (List.take ((if (300:Int) < (↑rs.length:Int) then (300:Int) else (↑rs.length:Int)).toNat * 6) (List.drop 0 (rels rs))) && ((0+(if (300:Int) < (↑rs.length:Int) then (300:Int) else (↑rs.length:Int)).toNat) * 20).ble 1099511627776 && (0+(if (300:Int) < (↑rs.length:Int) then (300:Int) else (↑rs.length:Int)).toNat).blt 4611686018427387904 then bif hasN (0+(if (300:Int) < (↑rs.length:Int) then (300:Int) else (↑rs.length:Int)).toNat * 6) (rels rs) then bif decide ((0:Int) ≤ if (300:Int) < (↑rs.length:Int) then (300:Int) else (↑rs.length:Int)) && decide ((if (300:Int) < (↑rs.length:Int) then (300:Int) else (↑rs.length:Int)) ≤ (↑rs.length:Int)) then bif decide ((0:Int) ≤ if (20000:Int) < (↑(lenT data):Int) then (20000:Int) else (↑(lenT data):Int)) && decide ((if (20000:Int) < (↑(lenT data):Int) then (20000:Int) else (↑(lenT data):Int)) ≤ (↑(lenT data):Int)) then bif (lenT (List.take ((if (5000:Int) < (↑cs.length:Int) then (5000:Int) else (↑cs.length:Int)).toNat * 1) (List.drop 0 (u32s cs)))).beq ((if (5000:Int) < (↑cs.length:Int) then (5000:Int) else (↑cs.length:Int)).toNat * 1) && oneC (List.take ((if (5000:Int) < (↑cs.length:Int) then (5000:Int) else (↑cs.length:Int)).toNat * 1) (List.drop 0 (u32s cs))) && ((0+(if (5000:Int) < (↑cs.length:Int) then (5000:Int) else (↑cs.length:Int)).toNat) * 4).ble 1099511627776 && (0+(if (5000:Int) < (↑cs.length:Int) then (5000:Int) else (↑cs.length:Int)).toNat).blt 4611686018427387904 then bif hasN (0+(if (5000:Int) < (↑cs.length:Int) then (5000:Int) else (↑cs.length:Int)).toNat * 1) (u32s cs) then bif decide ((0:Int) ≤ if (5000:Int) < (↑cs.length:Int) then (5000:Int) else (↑cs.length:Int)) && decide ((if (5000:Int) < (↑cs.length:Int) then (5000:Int) else (↑cs.length:Int)) ≤ (↑cs.length:Int)) then True else False else False else False else False else False else False else False : St }):=by kernel_rfl
theorem own_lll (pages stack types : Int) (data : List UInt8) (cs : List Nat) (rs : List Rl) (starts : List Nat) : evF Try.prog noBase noLoop 100 10 9 [Value.agg ⟨[.int .i64 pages,.int .i64 stack,.int .i64 types,.slice (some ⟨64,0,none⟩) cs.length (big+64),.string ⟨⟨data⟩⟩,.slice (some ⟨65,0,none⟩) rs.length (big+65),.slice (some ⟨66,0,none⟩) starts.length (big+66)]⟩] ⟨67,[(64,⟨false,some (0,0),u32s cs,none⟩),(65,⟨false,some (0,0),rels rs,none⟩),(66,⟨false,some (0,0),u32s starts,none⟩)],[(64,cs.length),(65,rs.length),(66,starts.length)],0,[],0,True⟩ = some (Value.agg ⟨[.int .i64 pages,.int .i64 stack,.int .i64 types,.slice (some ⟨70,0,none⟩) (0+(if (5000:Int) < (↑cs.length:Int) then (5000:Int) else (↑cs.length:Int)).toNat) 9223372036854775878,.string ⟨⟨List.take ((if (20000:Int) < (↑(lenT data):Int) then (20000:Int) else (↑(lenT data):Int)).toNat - 0) (List.drop 0 data)⟩⟩,.slice (some ⟨72,0,none⟩) (0+(if (300:Int) < (↑rs.length:Int) then (300:Int) else (↑rs.length:Int)).toNat) 9223372036854775880,.slice (some ⟨74,0,none⟩) (0+(if (6:Int) < (↑starts.length:Int) then (6:Int) else (↑starts.length:Int)).toNat) 9223372036854775882]⟩,{ n:=75,h:=[(74,⟨true,some (74,1),List.take ((if (6:Int) < (↑starts.length:Int) then (6:Int) else (↑starts.length:Int)).toNat * 1) (List.drop 0 (u32s starts)),none⟩),(72,⟨true,some (72,6),List.take ((if (300:Int) < (↑rs.length:Int) then (300:Int) else (↑rs.length:Int)).toNat * 6) (List.drop 0 (rels rs)),none⟩),(70,⟨true,some (70,1),List.take ((if (5000:Int) < (↑cs.length:Int) then (5000:Int) else (↑cs.length:Int)).toNat * 1) (List.drop 0 (u32s cs)),none⟩),(68,⟨true,none,[Value.int .i64 pages,.int .i64 stack,.int .i64 types,.slice (some ⟨70,0,none⟩) (0+(if (5000:Int) < (↑cs.length:Int) then (5000:Int) else (↑cs.length:Int)).toNat) 9223372036854775878,.string ⟨⟨List.take ((if (20000:Int) < (↑(lenT data):Int) then (20000:Int) else (↑(lenT data):Int)).toNat - 0) (List.drop 0 data)⟩⟩,.slice (some ⟨72,0,none⟩) (0+(if (300:Int) < (↑rs.length:Int) then (300:Int) else (↑rs.length:Int)).toNat) 9223372036854775880,.slice (some ⟨74,0,none⟩) (0+(if (6:Int) < (↑starts.length:Int) then (6:Int) else (↑starts.length:Int)).toNat) 9223372036854775882],none⟩),(67,⟨true,none,[Value.int .i64 pages,.int .i64 stack,.int .i64 types,.slice (some ⟨70,0,none⟩) (0+(if (5000:Int) < (↑cs.length:Int) then (5000:Int) else (↑cs.length:Int)).toNat) 9223372036854775878,.string ⟨⟨List.take ((if (20000:Int) < (↑(lenT data):Int) then (20000:Int) else (↑(lenT data):Int)).toNat - 0) (List.drop 0 data)⟩⟩,.slice (some ⟨72,0,none⟩) (0+(if (300:Int) < (↑rs.length:Int) then (300:Int) else (↑rs.length:Int)).toNat) 9223372036854775880,.slice (some ⟨74,0,none⟩) (0+(if (6:Int) < (↑starts.length:Int) then (6:Int) else (↑starts.length:Int)).toNat) 9223372036854775882],none⟩),(64,⟨false,some (0,0),u32s cs,none⟩),(65,⟨false,some (0,0),rels rs,none⟩),(66,⟨false,some (0,0),u32s starts,none⟩)],lo:=[(74,0+(if (6:Int) < (↑starts.length:Int) then (6:Int) else (↑starts.length:Int)).toNat),(72,0+(if (300:Int) < (↑rs.length:Int) then (300:Int) else (↑rs.length:Int)).toNat),(70,0+(if (5000:Int) < (↑cs.length:Int) then (5000:Int) else (↑cs.length:Int)).toNat),(64,cs.length),(65,rs.length),(66,starts.length)],esc:=0,T:=[],k:=0,O:=bif (lenT (List.take ((if (6:Int) < (↑starts.length:Int) then (6:Int) else (↑starts.length:Int)).toNat * 1) (List.drop 0 (u32s starts)))).beq ((if (6:Int) < (↑starts.length:Int) then (6:Int) else (↑starts.length:Int)).toNat * 1) && oneC (List.take ((if (6:Int) < (↑starts.length:Int) then (6:Int) else (↑starts.length:Int)).toNat * 1) (List.drop 0 (u32s starts))) && ((0+(if (6:Int) < (↑starts.length:Int) then (6:Int) else (↑starts.length:Int)).toNat) * 4).ble 1099511627776 && (0+(if (6:Int) < (↑starts.length:Int) then (6:Int) else (↑starts.length:Int)).toNat).blt 4611686018427387904 then bif hasN (0+(if (6:Int) < (↑starts.length:Int) then (6:Int) else (↑starts.length:Int)).toNat * 1) (u32s starts) then bif decide ((0:Int) ≤ if (6:Int) < (↑starts.length:Int) then (6:Int) else (↑starts.length:Int)) && decide ((if (6:Int) < (↑starts.length:Int) then (6:Int) else (↑starts.length:Int)) ≤ (↑starts.length:Int)) then bif (lenT (List.take ((if (300:Int) < (↑rs.length:Int) then (300:Int) else (↑rs.length:Int)).toNat * 6) (List.drop 0 (rels rs)))).beq ((if (300:Int) < (↑rs.length:Int) then (300:Int) else (↑rs.length:Int)).toNat * 6) && oneC (List.take ((if (300:Int) < (↑rs.length:Int) then (300:Int) else (↑rs.length:Int)).toNat * 6) (List.drop 0 (rels rs))) && ((0+(if (300:Int) < (↑rs.length:Int) then (300:Int) else (↑rs.length:Int)).toNat) * 20).ble 1099511627776 && (0+(if (300:Int) < (↑rs.length:Int) then (300:Int) else (↑rs.length:Int)).toNat).blt 4611686018427387904 then bif hasN (0+(if (300:Int) < (↑rs.length:Int) then (300:Int) else (↑rs.length:Int)).toNat * 6) (rels rs) then bif decide ((0:Int) ≤ if (300:Int) < (↑rs.length:Int) then (300:Int) else (↑rs.length:Int)) && decide ((if (300:Int) < (↑rs.length:Int) then (300:Int) else (↑rs.length:Int)) ≤ (↑rs.length:Int)) then bif decide ((0:Int) ≤ if (20000:Int) < (↑(lenT data):Int) then (20000:Int) else (↑(lenT data):Int)) && decide ((if (20000:Int) < (↑(lenT data):Int) then (20000:Int) else (↑(lenT data):Int)) ≤ (↑(lenT data):Int)) then bif (lenT (List.take ((if (5000:Int) < (↑cs.length:Int) then (5000:Int) else (↑cs.length:Int)).toNat * 1) (List.drop 0 (u32s cs)))).beq ((if (5000:Int) < (↑cs.length:Int) then (5000:Int) else (↑cs.length:Int)).toNat * 1) && oneC (List.take ((if (5000:Int) < (↑cs.length:Int) then (5000:Int) else (↑cs.length:Int)).toNat * 1) (List.drop 0 (u32s cs))) && ((0+(if (5000:Int) < (↑cs.length:Int) then (5000:Int) else (↑cs.length:Int)).toNat) * 4).ble 1099511627776 && (0+(if (5000:Int) < (↑cs.length:Int) then (5000:Int) else (↑cs.length:Int)).toNat).blt 4611686018427387904 then bif hasN (0+(if (5000:Int) < (↑cs.length:Int) then (5000:Int) else (↑cs.length:Int)).toNat * 1) (u32s cs) then bif decide ((0:Int) ≤ if (5000:Int) < (↑cs.length:Int) then (5000:Int) else (↑cs.length:Int)) && decide ((if (5000:Int) < (↑cs.length:Int) then (5000:Int) else (↑cs.length:Int)) ≤ (↑cs.length:Int)) then True else False else False else False else False else False else False else False else False else False else False : St }):=by kernel_rfl
theorem ichk_con (pages stack types : Int) (nc : Nat) (data : List UInt8) (rs : List Rl) (starts : List Nat) (hi : ImOk rs starts) : ConOk Try.prog 14 3 (imD pages stack types nc data rs starts (chkV pages stack types nc data rs starts)):=by
 refine (im_any (v':=chkV pages stack types nc data rs starts) (T:=[]) (run_ok i_names (baseR_ok (selLayAt_ok rs starts) (baseC_ok selK_ok)) (noLoop_ok _) 10) (ichk pages stack types nc data rs starts) rfl rfl rfl ?_).drop
 repeat' (with_reducible apply And.intro)
 all_goals first | exact hi | with_reducible trivial | with_reducible rfl | exact flat_all (rels_flat rs) | exact (flat_map (rels_flat rs)).symm | exact flat_all (u32s_flat starts) | exact (flat_map (u32s_flat starts)).symm
theorem works_run : RunY Try.prog 1000 30 11 = True:=by kernel_rfl
theorem works_ok : ConOk Try.prog 11 3 (Con.pure [] (.bool true)):=runY_con i_names (by kernel_rfl) works_run
def selWk : SelC:=fun f args _ =>
 match args with
 | [] => bif Nat.beq f 11 then some (Con.pure [] (.bool true),[],True) else none
 | _ => none
theorem selWk_ok : SelOk Try.prog 3 selWk:=by
 intro f args s c ρ q h hq
 unfold selWk at h
 split at h
 ·obtain ⟨h2,h⟩:=bif_some h
  have h2:=Nat.eq_of_beq_eq_true h2
  subst h2
  cases h
  exact works_ok
 ·cases h
end Go.Proofs.Ytdljpnebpoaeiaa
namespace Go.Proofs.Ytdljpnebpoaeiaa
open Go.RowKit
open Sy
theorem take_u32s (n : Nat) (xs : List Nat) : List.take n (u32s xs) = u32s (xs.take n):=by unfold u32s; rw [List.map_take]
theorem take_rels : ∀ (n : Nat) (rs : List Rl),List.take (n * 6) (rels rs) = rels (rs.take n)
 | 0,rs => by simp [rels]
 | n + 1,[] => by simp [rels]
 | n + 1,x :: rs => by
  rw [rels_cons,List.take_succ_cons,rels_cons,List.take_append,List.take_of_length_le (by simp only [rr, tt, relC,List.length_cons,List.length_nil]; omega),show (relC x).length = 6 from rfl,show (n + 1) * 6 - 6 = n * 6 by omega,take_rels n rs]
theorem oneC_flat : ∀ {l : List Value},(∀ v ∈ l,flat0 v = true) → oneC l = true
 | [],_ => rfl
 | v :: l,h => by
  have h1:=flat0_oneCell (h v (List.mem_cons_self ..))
  have h2:=oneC_flat fun u hu => h u (List.mem_cons_of_mem _ hu)
  unfold oneC at *
  simp only [rr, tt, List.all_cons,Bool.and_eq_true]
  exact ⟨h1,h2⟩
theorem cut_len {α : Type} (m : Nat) (l : List α) : (if ((m : Nat) : Int) < (l.length : Int) then ((m : Nat) : Int) else (l.length : Int)) = (((l.take m).length : Nat) : Int):=by
 rw [List.length_take]; split <;> omega
theorem take_take_len {α : Type} (m : Nat) (l : List α) : l.take (l.take m).length = l.take m:=by
 rw [List.length_take,List.take_eq_take_iff]; omega
theorem ble_true {a b : Nat} (h : a ≤ b) : a.ble b = true:=Nat.ble_eq_true_of_le h
theorem blt_true {a b : Nat} (h : a < b) : a.blt b = true:=(Nat.blt_eq).mpr h
theorem occ1 (cs : List Nat) : (if (5000 : Int) < (cs.length : Int) then (5000 : Int) else (cs.length : Int)) = (((cs.take 5000).length : Nat) : Int):=cut_len 5000 cs
theorem occ2 (cs : List Nat) : List.take (cs.take 5000).length (u32s cs) = u32s (cs.take 5000):=by rw [take_u32s,take_take_len]
theorem occ3 (cs : List Nat) : (u32s (cs.take 5000)).length.beq (cs.take 5000).length = true:=by rw [show (u32s (cs.take 5000)).length = (cs.take 5000).length from by simp [u32s]]; exact Nat.beq_refl _
theorem occ7 (cs : List Nat) : hasN (cs.take 5000).length (u32s cs) = true:=by rw [u32s_has,decide_eq_true_eq,List.length_take]; omega
theorem occ4 (cs : List Nat) : oneC (u32s (cs.take 5000)) = true:=oneC_flat (u32s_flat _)
theorem occ5 (cs : List Nat) : ((cs.take 5000).length * 4).ble 1099511627776 = true:=ble_true (by rw [List.length_take]; omega)
theorem occ6 (cs : List Nat) : (cs.take 5000).length.blt 4611686018427387904 = true:=blt_true (by rw [List.length_take]; omega)
theorem occ8 (cs : List Nat) : decide ((0 : Int) ≤ (((cs.take 5000).length : Nat) : Int)) = true:=by simp
theorem occ9 (cs : List Nat) : decide ((((cs.take 5000).length : Nat) : Int) ≤ ((cs.length : Nat) : Int)) = true:=by rw [decide_eq_true_eq,List.length_take]; omega
theorem ocr1 (rs : List Rl) : (if (300 : Int) < (rs.length : Int) then (300 : Int) else (rs.length : Int)) = (((rs.take 300).length : Nat) : Int):=cut_len 300 rs
theorem ocr2 (rs : List Rl) : List.take ((rs.take 300).length * 6) (rels rs) = rels (rs.take 300):=by rw [take_rels,take_take_len]
theorem ocr3 (rs : List Rl) : (rels (rs.take 300)).length.beq ((rs.take 300).length * 6) = true:=by rw [rels_len]; exact Nat.beq_refl _
theorem ocr7 (rs : List Rl) : hasN ((rs.take 300).length * 6) (rels rs) = true:=by rw [rels_has,decide_eq_true_eq,List.length_take]; omega
theorem ocr4 (rs : List Rl) : oneC (rels (rs.take 300)) = true:=oneC_flat (rels_flat _)
theorem ocr5 (rs : List Rl) : ((rs.take 300).length * 20).ble 1099511627776 = true:=ble_true (by rw [List.length_take]; omega)
theorem ocr6 (rs : List Rl) : (rs.take 300).length.blt 4611686018427387904 = true:=blt_true (by rw [List.length_take]; omega)
theorem ocr8 (rs : List Rl) : decide ((0 : Int) ≤ (((rs.take 300).length : Nat) : Int)) = true:=by simp
theorem ocr9 (rs : List Rl) : decide ((((rs.take 300).length : Nat) : Int) ≤ ((rs.length : Nat) : Int)) = true:=by rw [decide_eq_true_eq,List.length_take]; omega
theorem ocs1 (starts : List Nat) : (if (6 : Int) < (starts.length : Int) then (6 : Int) else (starts.length : Int)) = (((starts.take 6).length : Nat) : Int):=cut_len 6 starts
theorem ocs2 (starts : List Nat) : List.take (starts.take 6).length (u32s starts) = u32s (starts.take 6):=by rw [take_u32s,take_take_len]
theorem ocs3 (starts : List Nat) : (u32s (starts.take 6)).length.beq (starts.take 6).length = true:=by rw [show (u32s (starts.take 6)).length = (starts.take 6).length from by simp [u32s]]; exact Nat.beq_refl _
theorem ocs7 (starts : List Nat) : hasN (starts.take 6).length (u32s starts) = true:=by rw [u32s_has,decide_eq_true_eq,List.length_take]; omega
theorem ocs4 (starts : List Nat) : oneC (u32s (starts.take 6)) = true:=oneC_flat (u32s_flat _)
theorem ocs5 (starts : List Nat) : ((starts.take 6).length * 4).ble 1099511627776 = true:=ble_true (by rw [List.length_take]; omega)
theorem ocs6 (starts : List Nat) : (starts.take 6).length.blt 4611686018427387904 = true:=blt_true (by rw [List.length_take]; omega)
theorem ocs8 (starts : List Nat) : decide ((0 : Int) ≤ (((starts.take 6).length : Nat) : Int)) = true:=by simp
theorem ocs9 (starts : List Nat) : decide ((((starts.take 6).length : Nat) : Int) ≤ ((starts.length : Nat) : Int)) = true:=by rw [decide_eq_true_eq,List.length_take]; omega
theorem ocd1 (data : List UInt8) : (if (20000 : Int) < (data.length : Int) then (20000 : Int) else (data.length : Int)) = (((data.take 20000).length : Nat) : Int):=cut_len 20000 data
theorem ocd2 (data : List UInt8) : List.take (data.take 20000).length data = data.take 20000:=take_take_len _ _
theorem ocd8 (data : List UInt8) : decide ((0 : Int) ≤ (((data.take 20000).length : Nat) : Int)) = true:=by simp
theorem ocd9 (data : List UInt8) : decide ((((data.take 20000).length : Nat) : Int) ≤ ((data.length : Nat) : Int)) = true:=by rw [decide_eq_true_eq,List.length_take]; omega
def sl (k : Nat) (g n : Nat) : Value:=match k with | 0 => .slice none 0 0 | 1 => .slice (some ⟨g,0,some g⟩) 0 (big + g) | _ => .slice (some ⟨g,0,none⟩) n (big + g)
def slH (k : Nat) (g : Nat) (cells : List Value) : Sy.Heap:=match k with | 0 => [] | 1 => [] | _ => [(g,⟨false,some (0,0),cells,none⟩)]
def slOk (k n : Nat) : Prop:=k ≤ 2 ∧ (k < 2 → n = 0)
def inV (i j k : Nat) (pages stack types : Int) (data : List UInt8) (cs : List Nat) (rs : List Rl) (starts : List Nat) : Value :=
 .agg ⟨[.int .i64 pages,.int .i64 stack,.int .i64 types,sl i 64 cs.length,.string ⟨⟨data⟩⟩,sl j 65 rs.length,sl k 66 starts.length]⟩
def inH (i j k : Nat) (cs : List Nat) (rs : List Rl) (starts : List Nat) : Sy.Heap:=slH i 64 (u32s cs) ++ slH j 65 (rels rs) ++ slH k 66 (u32s starts)
def inLo (cs : List Nat) (rs : List Rl) (starts : List Nat) : List (Nat × Nat):=[(64,cs.length),(65,rs.length),(66,starts.length)]
def ownV (pages stack types : Int) (data : List UInt8) (cs : List Nat) (rs : List Rl) (starts : List Nat) (a b c : Nat) : Value :=
 .agg ⟨[.int .i64 pages,.int .i64 stack,.int .i64 types,.slice (some ⟨a,0,none⟩) (cs.take 5000).length (big + a),.string ⟨⟨data.take 20000⟩⟩,.slice (some ⟨b,0,none⟩) (rs.take 300).length (big + b),.slice (some ⟨c,0,none⟩) (starts.take 6).length (big + c)]⟩
def ownH (cs : List Nat) (rs : List Rl) (starts : List Nat) (a b c : Nat) : Sy.Heap:=[(c,⟨true,some (c,1),u32s (starts.take 6),none⟩),(b,⟨true,some (b,6),rels (rs.take 300),none⟩),(a,⟨true,some (a,1),u32s (cs.take 5000),none⟩)]
def ownC (v : Value) (h : Sy.Heap) (pages stack types : Int) (data : List UInt8) (cs : List Nat) (rs : List Rl) (starts : List Nat) : Con :=
 ⟨[v],67,h,inLo cs rs starts,ownV pages stack types data cs rs starts 67 68 69,70,ownH cs rs starts 67 68 69,[]⟩
def loD (cs : List Nat) (rs : List Rl) (starts : List Nat) (a b c : Nat) : List (Nat × Nat):=[(a,(cs.take 5000).length),(b,(rs.take 300).length),(c,(starts.take 6).length)]
def ownD (v : Value) (h : Sy.Heap) (pages stack types : Int) (data : List UInt8) (cs : List Nat) (rs : List Rl) (starts : List Nat) : Con :=
 ⟨[v],67,h,inLo cs rs starts,ownV pages stack types data cs rs starts 67 68 69,70,ownH cs rs starts 67 68 69,loD cs rs starts 67 68 69⟩
def owσ (l : Nat) : Nat:=if l = 67 then 70 else if l = 68 then 72 else if l = 69 then 74 else l
theorem okH_append {q : Nat → Bool} : ∀ {a b : Sy.Heap},OkH q a → OkH q b → OkH q (a ++ b)
 | [],_,_,h => h
 | _ :: _,_,h1,h2 => ⟨h1.1,okH_append h1.2 h2⟩
theorem slH_ok {q : Nat → Bool} (k : Nat) {g : Nat} {cells : List Value} (h1 : q g = true) (h2 : q 0 = true) (h3 : ∀ v ∈ cells,flat0 v = true) : OkH q (slH k g cells):=by
 unfold slH
 split
 ·trivial
 ·trivial
 ·exact ⟨⟨h1,h2,flat_bnd h3⟩,trivial⟩
theorem in_wf (i j k : Nat) (pages stack types : Int) (data : List UInt8) (cs : List Nat) (rs : List Rl) (starts : List Nat) (hi : i ≤ 2) (hj : j ≤ 2) (hk : k ≤ 2) : (ownD (inV i j k pages stack types data cs rs starts) (inH i j k cs rs starts) pages stack types data cs rs starts).Wf 3:=by
 have h1 : OkH (fun l => Nat.blt l 67) (inH i j k cs rs starts):=okH_append (okH_append (slH_ok i (by decide) (by decide) (u32s_flat cs)) (slH_ok j (by decide) (by decide) (rels_flat rs))) (slH_ok k (by decide) (by decide) (u32s_flat starts))
 refine ⟨by show NG ≤ 67; decide,by show 67 ≤ 70; omega,h1,rfl,rfl,rfl,?_,by kernel_rfl,fun x hx v hv => ?_⟩
 ·obtain rfl | rfl | rfl : i = 0 ∨ i = 1 ∨ i = 2:=by omega
  all_goals obtain rfl | rfl | rfl : j = 0 ∨ j = 1 ∨ j = 2:=by omega
  all_goals obtain rfl | rfl | rfl : k = 0 ∨ k = 1 ∨ k = 2:=by omega
  all_goals kernel_rfl
 ·simp only [rr, tt, ownD,ownH,List.mem_cons,List.not_mem_nil,or_false] at hx
  rcases hx with rfl | rfl | rfl
  ·exact okV_flat0 (u32s_flat _ v hv) 3
  ·exact okV_flat0 (rels_flat _ v hv) 3
  ·exact okV_flat0 (u32s_flat _ v hv) 3
theorem own_any {i j k : Nat} {pages stack types : Int} {data : List UInt8} {cs : List Nat} {rs : List Rl} {starts : List Nat} {b1 b2 : Nat × Sy.Blk} {lo' : List (Nat × Nat)} {q : Prop}
  (h : evF Try.prog noBase noLoop 100 10 9 [inV i j k pages stack types data cs rs starts] ⟨67,inH i j k cs rs starts,inLo cs rs starts,0,[],0,True⟩ = some (ownV pages stack types data cs rs starts 70 72 74,⟨75,(ownH cs rs starts 70 72 74) ++ b1 :: b2 :: inH i j k cs rs starts,lo',0,[],0,q⟩))
  (hq : q) (hl : SeenO (fun l => Nat.blt l 70) owσ lo' (loD cs rs starts 67 68 69)) (hi : i ≤ 2) (hj : j ≤ 2) (hk : k ≤ 2) : ConOk Try.prog 9 3 (ownD (inV i j k pages stack types data cs rs starts) (inH i j k cs rs starts) pages stack types data cs rs starts):=by
 refine conOk_run (run_ok (L:=100) i_names (noBase_ok _) (noLoop_ok _) 10) (in_wf i j k pages stack types data cs rs starts hi hj hk) (T:=[]) (p:=fun l => Nat.blt l 70) (σ:=owσ) h hq ?_
 refine ⟨fun l hl => ?_,⟨⟨rfl,flat_all (u32s_flat _),rfl,rfl,rfl,trivial,(flat_map (u32s_flat _)).symm⟩,⟨rfl,flat_all (rels_flat _),rfl,rfl,rfl,trivial,(flat_map (rels_flat _)).symm⟩,⟨rfl,flat_all (u32s_flat _),rfl,rfl,rfl,trivial,(flat_map (u32s_flat _)).symm⟩,trivial⟩,rfl,hl,⟨by kernel_rfl,by kernel_rfl⟩,rfl,⟨⟨rfl,rfl,flat_bnd (u32s_flat _)⟩,⟨rfl,rfl,flat_bnd (rels_flat _)⟩,⟨rfl,rfl,flat_bnd (u32s_flat _)⟩,trivial⟩,rfl,okV_bnd 3 _ (show okV (keeps 67 70 owσ (fun l => Nat.blt l 70)) 3 (ownV pages stack types data cs rs starts 67 68 69) = true from by kernel_rfl),fun x hx hrw => ?_⟩
 ·have : NG ≤ 67:=by decide
  unfold owσ
  rw [if_neg (by omega),if_neg (by omega),if_neg (by omega)]
 ·simp only [rr, tt, ownD,ownH,List.mem_cons,List.not_mem_nil,or_false] at hx
  rcases hx with rfl | rfl | rfl <;> cases hrw
theorem nil_of {α : Type} {l : List α} (h : l.length = 0) : l = []:=List.eq_nil_of_length_eq_zero h
theorem own_conD (i j k : Nat) (pages stack types : Int) (data : List UInt8) (cs : List Nat) (rs : List Rl) (starts : List Nat) (hi : slOk i cs.length) (hj : slOk j rs.length) (hk : slOk k starts.length) :
  ConOk Try.prog 9 3 (ownD (inV i j k pages stack types data cs rs starts) (inH i j k cs rs starts) pages stack types data cs rs starts):=by
 obtain ⟨hi,ei⟩:=hi
 obtain ⟨hj,ej⟩:=hj
 obtain ⟨hk,ek⟩:=hk
 obtain rfl | rfl | rfl : i = 0 ∨ i = 1 ∨ i = 2:=by omega
 ·obtain rfl:=nil_of (ei (by omega))
  obtain rfl | rfl | rfl : j = 0 ∨ j = 1 ∨ j = 2:=by omega
  ·obtain rfl:=nil_of (ej (by omega))
   obtain rfl | rfl | rfl : k = 0 ∨ k = 1 ∨ k = 2:=by omega
   ·obtain rfl:=nil_of (ek (by omega))
    have hh:=own_nnn pages stack types data [] [] []
    simp only [rr, tt, lenT_eq,List.drop_zero,Nat.zero_add,Nat.sub_zero,Nat.mul_one,Int.toNat_natCast,ocd1,ocd2,ocd8,ocd9,Bool.and_self,cond_true] at hh
    exact own_any hh trivial ⟨⟨rfl,Nat.le_refl _⟩,⟨rfl,Nat.le_refl _⟩,⟨rfl,Nat.le_refl _⟩,trivial⟩ (by omega) (by omega) (by omega)
   ·obtain rfl:=nil_of (ek (by omega))
    have hh:=own_nne pages stack types data [] [] []
    simp only [rr, tt, lenT_eq,List.drop_zero,Nat.zero_add,Nat.sub_zero,Nat.mul_one,Int.toNat_natCast,ocd1,ocd2,ocd8,ocd9,Bool.and_self,cond_true] at hh
    exact own_any hh trivial ⟨⟨rfl,Nat.le_refl _⟩,⟨rfl,Nat.le_refl _⟩,⟨rfl,Nat.le_refl _⟩,trivial⟩ (by omega) (by omega) (by omega)
   ·skip
    have hh:=own_nnl pages stack types data [] [] starts
    simp only [rr, tt, lenT_eq,List.drop_zero,Nat.zero_add,Nat.sub_zero,Nat.mul_one,Int.toNat_natCast,ocd1,ocd2,ocd8,ocd9,ocs1,ocs2,ocs3,ocs4,ocs5,ocs6,ocs7,ocs8,ocs9,Bool.and_self,cond_true] at hh
    exact own_any hh trivial ⟨⟨rfl,Nat.le_refl _⟩,⟨rfl,Nat.le_refl _⟩,⟨rfl,Nat.le_refl _⟩,trivial⟩ (by omega) (by omega) (by omega)
  ·obtain rfl:=nil_of (ej (by omega))
   obtain rfl | rfl | rfl : k = 0 ∨ k = 1 ∨ k = 2:=by omega
   ·obtain rfl:=nil_of (ek (by omega))
    have hh:=own_nen pages stack types data [] [] []
    simp only [rr, tt, lenT_eq,List.drop_zero,Nat.zero_add,Nat.sub_zero,Nat.mul_one,Int.toNat_natCast,ocd1,ocd2,ocd8,ocd9,Bool.and_self,cond_true] at hh
    exact own_any hh trivial ⟨⟨rfl,Nat.le_refl _⟩,⟨rfl,Nat.le_refl _⟩,⟨rfl,Nat.le_refl _⟩,trivial⟩ (by omega) (by omega) (by omega)
   ·obtain rfl:=nil_of (ek (by omega))
    have hh:=own_nee pages stack types data [] [] []
    simp only [rr, tt, lenT_eq,List.drop_zero,Nat.zero_add,Nat.sub_zero,Nat.mul_one,Int.toNat_natCast,ocd1,ocd2,ocd8,ocd9,Bool.and_self,cond_true] at hh
    exact own_any hh trivial ⟨⟨rfl,Nat.le_refl _⟩,⟨rfl,Nat.le_refl _⟩,⟨rfl,Nat.le_refl _⟩,trivial⟩ (by omega) (by omega) (by omega)
   ·skip
    have hh:=own_nel pages stack types data [] [] starts
    simp only [rr, tt, lenT_eq,List.drop_zero,Nat.zero_add,Nat.sub_zero,Nat.mul_one,Int.toNat_natCast,ocd1,ocd2,ocd8,ocd9,ocs1,ocs2,ocs3,ocs4,ocs5,ocs6,ocs7,ocs8,ocs9,Bool.and_self,cond_true] at hh
    exact own_any hh trivial ⟨⟨rfl,Nat.le_refl _⟩,⟨rfl,Nat.le_refl _⟩,⟨rfl,Nat.le_refl _⟩,trivial⟩ (by omega) (by omega) (by omega)
  ·skip
   obtain rfl | rfl | rfl : k = 0 ∨ k = 1 ∨ k = 2:=by omega
   ·obtain rfl:=nil_of (ek (by omega))
    have hh:=own_nln pages stack types data [] rs []
    simp only [rr, tt, lenT_eq,List.drop_zero,Nat.zero_add,Nat.sub_zero,Nat.mul_one,Int.toNat_natCast,ocd1,ocd2,ocd8,ocd9,ocr1,ocr2,ocr3,ocr4,ocr5,ocr6,ocr7,ocr8,ocr9,Bool.and_self,cond_true] at hh
    exact own_any hh trivial ⟨⟨rfl,Nat.le_refl _⟩,⟨rfl,Nat.le_refl _⟩,⟨rfl,Nat.le_refl _⟩,trivial⟩ (by omega) (by omega) (by omega)
   ·obtain rfl:=nil_of (ek (by omega))
    have hh:=own_nle pages stack types data [] rs []
    simp only [rr, tt, lenT_eq,List.drop_zero,Nat.zero_add,Nat.sub_zero,Nat.mul_one,Int.toNat_natCast,ocd1,ocd2,ocd8,ocd9,ocr1,ocr2,ocr3,ocr4,ocr5,ocr6,ocr7,ocr8,ocr9,Bool.and_self,cond_true] at hh
    exact own_any hh trivial ⟨⟨rfl,Nat.le_refl _⟩,⟨rfl,Nat.le_refl _⟩,⟨rfl,Nat.le_refl _⟩,trivial⟩ (by omega) (by omega) (by omega)
   ·skip
    have hh:=own_nll pages stack types data [] rs starts
    simp only [rr, tt, lenT_eq,List.drop_zero,Nat.zero_add,Nat.sub_zero,Nat.mul_one,Int.toNat_natCast,ocd1,ocd2,ocd8,ocd9,ocr1,ocr2,ocr3,ocr4,ocr5,ocr6,ocr7,ocr8,ocr9,ocs1,ocs2,ocs3,ocs4,ocs5,ocs6,ocs7,ocs8,ocs9,Bool.and_self,cond_true] at hh
    exact own_any hh trivial ⟨⟨rfl,Nat.le_refl _⟩,⟨rfl,Nat.le_refl _⟩,⟨rfl,Nat.le_refl _⟩,trivial⟩ (by omega) (by omega) (by omega)
 ·obtain rfl:=nil_of (ei (by omega))
  obtain rfl | rfl | rfl : j = 0 ∨ j = 1 ∨ j = 2:=by omega
  ·obtain rfl:=nil_of (ej (by omega))
   obtain rfl | rfl | rfl : k = 0 ∨ k = 1 ∨ k = 2:=by omega
   ·obtain rfl:=nil_of (ek (by omega))
    have hh:=own_enn pages stack types data [] [] []
    simp only [rr, tt, lenT_eq,List.drop_zero,Nat.zero_add,Nat.sub_zero,Nat.mul_one,Int.toNat_natCast,ocd1,ocd2,ocd8,ocd9,Bool.and_self,cond_true] at hh
    exact own_any hh trivial ⟨⟨rfl,Nat.le_refl _⟩,⟨rfl,Nat.le_refl _⟩,⟨rfl,Nat.le_refl _⟩,trivial⟩ (by omega) (by omega) (by omega)
   ·obtain rfl:=nil_of (ek (by omega))
    have hh:=own_ene pages stack types data [] [] []
    simp only [rr, tt, lenT_eq,List.drop_zero,Nat.zero_add,Nat.sub_zero,Nat.mul_one,Int.toNat_natCast,ocd1,ocd2,ocd8,ocd9,Bool.and_self,cond_true] at hh
    exact own_any hh trivial ⟨⟨rfl,Nat.le_refl _⟩,⟨rfl,Nat.le_refl _⟩,⟨rfl,Nat.le_refl _⟩,trivial⟩ (by omega) (by omega) (by omega)
   ·skip
    have hh:=own_enl pages stack types data [] [] starts
    simp only [rr, tt, lenT_eq,List.drop_zero,Nat.zero_add,Nat.sub_zero,Nat.mul_one,Int.toNat_natCast,ocd1,ocd2,ocd8,ocd9,ocs1,ocs2,ocs3,ocs4,ocs5,ocs6,ocs7,ocs8,ocs9,Bool.and_self,cond_true] at hh
    exact own_any hh trivial ⟨⟨rfl,Nat.le_refl _⟩,⟨rfl,Nat.le_refl _⟩,⟨rfl,Nat.le_refl _⟩,trivial⟩ (by omega) (by omega) (by omega)
  ·obtain rfl:=nil_of (ej (by omega))
   obtain rfl | rfl | rfl : k = 0 ∨ k = 1 ∨ k = 2:=by omega
   ·obtain rfl:=nil_of (ek (by omega))
    have hh:=own_een pages stack types data [] [] []
    simp only [rr, tt, lenT_eq,List.drop_zero,Nat.zero_add,Nat.sub_zero,Nat.mul_one,Int.toNat_natCast,ocd1,ocd2,ocd8,ocd9,Bool.and_self,cond_true] at hh
    exact own_any hh trivial ⟨⟨rfl,Nat.le_refl _⟩,⟨rfl,Nat.le_refl _⟩,⟨rfl,Nat.le_refl _⟩,trivial⟩ (by omega) (by omega) (by omega)
   ·obtain rfl:=nil_of (ek (by omega))
    have hh:=own_eee pages stack types data [] [] []
    simp only [rr, tt, lenT_eq,List.drop_zero,Nat.zero_add,Nat.sub_zero,Nat.mul_one,Int.toNat_natCast,ocd1,ocd2,ocd8,ocd9,Bool.and_self,cond_true] at hh
    exact own_any hh trivial ⟨⟨rfl,Nat.le_refl _⟩,⟨rfl,Nat.le_refl _⟩,⟨rfl,Nat.le_refl _⟩,trivial⟩ (by omega) (by omega) (by omega)
   ·skip
    have hh:=own_eel pages stack types data [] [] starts
    simp only [rr, tt, lenT_eq,List.drop_zero,Nat.zero_add,Nat.sub_zero,Nat.mul_one,Int.toNat_natCast,ocd1,ocd2,ocd8,ocd9,ocs1,ocs2,ocs3,ocs4,ocs5,ocs6,ocs7,ocs8,ocs9,Bool.and_self,cond_true] at hh
    exact own_any hh trivial ⟨⟨rfl,Nat.le_refl _⟩,⟨rfl,Nat.le_refl _⟩,⟨rfl,Nat.le_refl _⟩,trivial⟩ (by omega) (by omega) (by omega)
  ·skip
   obtain rfl | rfl | rfl : k = 0 ∨ k = 1 ∨ k = 2:=by omega
   ·obtain rfl:=nil_of (ek (by omega))
    have hh:=own_eln pages stack types data [] rs []
    simp only [rr, tt, lenT_eq,List.drop_zero,Nat.zero_add,Nat.sub_zero,Nat.mul_one,Int.toNat_natCast,ocd1,ocd2,ocd8,ocd9,ocr1,ocr2,ocr3,ocr4,ocr5,ocr6,ocr7,ocr8,ocr9,Bool.and_self,cond_true] at hh
    exact own_any hh trivial ⟨⟨rfl,Nat.le_refl _⟩,⟨rfl,Nat.le_refl _⟩,⟨rfl,Nat.le_refl _⟩,trivial⟩ (by omega) (by omega) (by omega)
   ·obtain rfl:=nil_of (ek (by omega))
    have hh:=own_ele pages stack types data [] rs []
    simp only [rr, tt, lenT_eq,List.drop_zero,Nat.zero_add,Nat.sub_zero,Nat.mul_one,Int.toNat_natCast,ocd1,ocd2,ocd8,ocd9,ocr1,ocr2,ocr3,ocr4,ocr5,ocr6,ocr7,ocr8,ocr9,Bool.and_self,cond_true] at hh
    exact own_any hh trivial ⟨⟨rfl,Nat.le_refl _⟩,⟨rfl,Nat.le_refl _⟩,⟨rfl,Nat.le_refl _⟩,trivial⟩ (by omega) (by omega) (by omega)
   ·skip
    have hh:=own_ell pages stack types data [] rs starts
    simp only [rr, tt, lenT_eq,List.drop_zero,Nat.zero_add,Nat.sub_zero,Nat.mul_one,Int.toNat_natCast,ocd1,ocd2,ocd8,ocd9,ocr1,ocr2,ocr3,ocr4,ocr5,ocr6,ocr7,ocr8,ocr9,ocs1,ocs2,ocs3,ocs4,ocs5,ocs6,ocs7,ocs8,ocs9,Bool.and_self,cond_true] at hh
    exact own_any hh trivial ⟨⟨rfl,Nat.le_refl _⟩,⟨rfl,Nat.le_refl _⟩,⟨rfl,Nat.le_refl _⟩,trivial⟩ (by omega) (by omega) (by omega)
 ·skip
  obtain rfl | rfl | rfl : j = 0 ∨ j = 1 ∨ j = 2:=by omega
  ·obtain rfl:=nil_of (ej (by omega))
   obtain rfl | rfl | rfl : k = 0 ∨ k = 1 ∨ k = 2:=by omega
   ·obtain rfl:=nil_of (ek (by omega))
    have hh:=own_lnn pages stack types data cs [] []
    simp only [rr, tt, lenT_eq,List.drop_zero,Nat.zero_add,Nat.sub_zero,Nat.mul_one,Int.toNat_natCast,ocd1,ocd2,ocd8,ocd9,occ1,occ2,occ3,occ4,occ5,occ6,occ7,occ8,occ9,Bool.and_self,cond_true] at hh
    exact own_any hh trivial ⟨⟨rfl,Nat.le_refl _⟩,⟨rfl,Nat.le_refl _⟩,⟨rfl,Nat.le_refl _⟩,trivial⟩ (by omega) (by omega) (by omega)
   ·obtain rfl:=nil_of (ek (by omega))
    have hh:=own_lne pages stack types data cs [] []
    simp only [rr, tt, lenT_eq,List.drop_zero,Nat.zero_add,Nat.sub_zero,Nat.mul_one,Int.toNat_natCast,ocd1,ocd2,ocd8,ocd9,occ1,occ2,occ3,occ4,occ5,occ6,occ7,occ8,occ9,Bool.and_self,cond_true] at hh
    exact own_any hh trivial ⟨⟨rfl,Nat.le_refl _⟩,⟨rfl,Nat.le_refl _⟩,⟨rfl,Nat.le_refl _⟩,trivial⟩ (by omega) (by omega) (by omega)
   ·skip
    have hh:=own_lnl pages stack types data cs [] starts
    simp only [rr, tt, lenT_eq,List.drop_zero,Nat.zero_add,Nat.sub_zero,Nat.mul_one,Int.toNat_natCast,ocd1,ocd2,ocd8,ocd9,occ1,occ2,occ3,occ4,occ5,occ6,occ7,occ8,occ9,ocs1,ocs2,ocs3,ocs4,ocs5,ocs6,ocs7,ocs8,ocs9,Bool.and_self,cond_true] at hh
    exact own_any hh trivial ⟨⟨rfl,Nat.le_refl _⟩,⟨rfl,Nat.le_refl _⟩,⟨rfl,Nat.le_refl _⟩,trivial⟩ (by omega) (by omega) (by omega)
  ·obtain rfl:=nil_of (ej (by omega))
   obtain rfl | rfl | rfl : k = 0 ∨ k = 1 ∨ k = 2:=by omega
   ·obtain rfl:=nil_of (ek (by omega))
    have hh:=own_len pages stack types data cs [] []
    simp only [rr, tt, lenT_eq,List.drop_zero,Nat.zero_add,Nat.sub_zero,Nat.mul_one,Int.toNat_natCast,ocd1,ocd2,ocd8,ocd9,occ1,occ2,occ3,occ4,occ5,occ6,occ7,occ8,occ9,Bool.and_self,cond_true] at hh
    exact own_any hh trivial ⟨⟨rfl,Nat.le_refl _⟩,⟨rfl,Nat.le_refl _⟩,⟨rfl,Nat.le_refl _⟩,trivial⟩ (by omega) (by omega) (by omega)
   ·obtain rfl:=nil_of (ek (by omega))
    have hh:=own_lee pages stack types data cs [] []
    simp only [rr, tt, lenT_eq,List.drop_zero,Nat.zero_add,Nat.sub_zero,Nat.mul_one,Int.toNat_natCast,ocd1,ocd2,ocd8,ocd9,occ1,occ2,occ3,occ4,occ5,occ6,occ7,occ8,occ9,Bool.and_self,cond_true] at hh
    exact own_any hh trivial ⟨⟨rfl,Nat.le_refl _⟩,⟨rfl,Nat.le_refl _⟩,⟨rfl,Nat.le_refl _⟩,trivial⟩ (by omega) (by omega) (by omega)
   ·skip
    have hh:=own_lel pages stack types data cs [] starts
    simp only [rr, tt, lenT_eq,List.drop_zero,Nat.zero_add,Nat.sub_zero,Nat.mul_one,Int.toNat_natCast,ocd1,ocd2,ocd8,ocd9,occ1,occ2,occ3,occ4,occ5,occ6,occ7,occ8,occ9,ocs1,ocs2,ocs3,ocs4,ocs5,ocs6,ocs7,ocs8,ocs9,Bool.and_self,cond_true] at hh
    exact own_any hh trivial ⟨⟨rfl,Nat.le_refl _⟩,⟨rfl,Nat.le_refl _⟩,⟨rfl,Nat.le_refl _⟩,trivial⟩ (by omega) (by omega) (by omega)
  ·skip
   obtain rfl | rfl | rfl : k = 0 ∨ k = 1 ∨ k = 2:=by omega
   ·obtain rfl:=nil_of (ek (by omega))
    have hh:=own_lln pages stack types data cs rs []
    simp only [rr, tt, lenT_eq,List.drop_zero,Nat.zero_add,Nat.sub_zero,Nat.mul_one,Int.toNat_natCast,ocd1,ocd2,ocd8,ocd9,occ1,occ2,occ3,occ4,occ5,occ6,occ7,occ8,occ9,ocr1,ocr2,ocr3,ocr4,ocr5,ocr6,ocr7,ocr8,ocr9,Bool.and_self,cond_true] at hh
    exact own_any hh trivial ⟨⟨rfl,Nat.le_refl _⟩,⟨rfl,Nat.le_refl _⟩,⟨rfl,Nat.le_refl _⟩,trivial⟩ (by omega) (by omega) (by omega)
   ·obtain rfl:=nil_of (ek (by omega))
    have hh:=own_lle pages stack types data cs rs []
    simp only [rr, tt, lenT_eq,List.drop_zero,Nat.zero_add,Nat.sub_zero,Nat.mul_one,Int.toNat_natCast,ocd1,ocd2,ocd8,ocd9,occ1,occ2,occ3,occ4,occ5,occ6,occ7,occ8,occ9,ocr1,ocr2,ocr3,ocr4,ocr5,ocr6,ocr7,ocr8,ocr9,Bool.and_self,cond_true] at hh
    exact own_any hh trivial ⟨⟨rfl,Nat.le_refl _⟩,⟨rfl,Nat.le_refl _⟩,⟨rfl,Nat.le_refl _⟩,trivial⟩ (by omega) (by omega) (by omega)
   ·skip
    have hh:=own_lll pages stack types data cs rs starts
    simp only [rr, tt, lenT_eq,List.drop_zero,Nat.zero_add,Nat.sub_zero,Nat.mul_one,Int.toNat_natCast,ocd1,ocd2,ocd8,ocd9,occ1,occ2,occ3,occ4,occ5,occ6,occ7,occ8,occ9,ocr1,ocr2,ocr3,ocr4,ocr5,ocr6,ocr7,ocr8,ocr9,ocs1,ocs2,ocs3,ocs4,ocs5,ocs6,ocs7,ocs8,ocs9,Bool.and_self,cond_true] at hh
    exact own_any hh trivial ⟨⟨rfl,Nat.le_refl _⟩,⟨rfl,Nat.le_refl _⟩,⟨rfl,Nat.le_refl _⟩,trivial⟩ (by omega) (by omega) (by omega)
theorem dropLo {P : Program} {f : FuncId} {d : Nat} {c : Con} (h : ConOk P f d c) : ConOk P f d { c with lo':=[] }:=by
 refine ⟨h.enters,fun r w h1 h2 h3 h4 => (h.calls r w h1 h2 h3 h4).mono ?_,h.ng,h.le,h.wf0,⟨h.wf1.1,fun x hx => by cases hx⟩,h.args,h.res,h.ok⟩
 rintro e w' ⟨r',he,T,hb⟩
 exact ⟨r',he,⟨T.ext,T.dom,T.le,T.good0,⟨T.good.is,T.good.inj,T.good.lt,fun x hx => by cases hx⟩,T.os,T.tape,T.output,T.size,T.frame,T.own⟩,hb⟩
theorem own_con (i j k : Nat) (pages stack types : Int) (data : List UInt8) (cs : List Nat) (rs : List Rl) (starts : List Nat) (hi : slOk i cs.length) (hj : slOk j rs.length) (hk : slOk k starts.length) :
  ConOk Try.prog 9 3 (ownC (inV i j k pages stack types data cs rs starts) (inH i j k cs rs starts) pages stack types data cs rs starts):=dropLo (own_conD i j k pages stack types data cs rs starts hi hj hk)
end Go.Proofs.Ytdljpnebpoaeiaa
namespace Go.Proofs.Ytdljpnebpoaeiaa
open Go.ChangeShapes Go.WideShapes Go.ChangeAt Go.RowKit
open Go.ChangeMaps (open_string shut_string)
theorem own : ownKnob Try.prog.godebug = none:=by kernel_rfl
theorem laidOut : laidOutB Try.prog = true:=by kernel_rfl
section
variable {H : Type} {enc : TypeId × Value → H} {P : Program}
theorem post_of_below {f : Func} {s : ChangeSpec} {apart fresh handsOn again : Bool} {W W' : World} {args : Array Value} {v : Value} {ds gs : List (DataW H)} {before pa pv : List MemPlace}
  (hW : DataW.Whole enc P f.params.toList s.vars apart W args.toList ds gs before)
  (hres : ∀ (b : Nat) (sp : Nat → Bool) (hd : Bool),DataW.TrodAll enc P W' b sp hd f.resultTypes.toList (v.resultList f.resultTypes.size) (s.fn H (ds ++ gs)).results [])
  (hargs : ∀ sp : Nat → Bool,(∀ p ∈ before,sp p.block = true) → DataW.TrodAll enc P W' 0 sp true f.params.toList args.toList (s.fn H (ds ++ gs)).args pa)
  (hvars : ∀ sp : Nat → Bool,(∀ p ∈ before,sp p.block = true) → DataW.TrodVars enc P W' sp s.vars (s.fn H (ds ++ gs)).vars pv)
  (hps : before = pa ++ pv) (hb : Below W.heap.size W W')
  (hok : ∀ (j : Nat) (t : TypeId) (r : Value),f.resultTypes[j]? = some t → (v.resultList f.resultTypes.size)[j]? = some r → Value.okWide P W' .any 0 t r) :
  s.post enc P f apart fresh handsOn again W args v W':=by
 have hlt : ∀ p ∈ before,p.block < W.heap.size:=fun p hp => hW.lt p hp
 have hold : ∀ p ∈ before,(fun b => decide (b < W.heap.size)) p.block = true:=fun p hp => by simpa using hlt p hp
 refine ⟨ds,gs,before,[],pa,pv,hW,hres _ _ _,hargs _ hold,hvars _ hold,World.keptBut_mono (fun p hp => ⟨hp,?_⟩) (hb.frame (· ∈ before)),fun _ => ?_⟩
 ·rw [hps,List.mem_append] at hp
  exact Or.inr hp
 ·obtain ⟨_,_,_,_,_,hz,hn⟩:=hW
  refine ⟨hok,_,_,([] ++ pa) ++ pv,⟨[] ++ pa,pv,trodAll_append (hargs _ (fun _ _ => rfl)) (hres _ _ _),hvars _ (fun _ _ => rfl),rfl,?_,?_⟩,?_⟩
  ·intro b off hp
   have hin : MemPlace.cell b off ∈ before:=by rw [hps]; simpa using hp
   rw [hb.frozen (hlt _ hin)]
   exact hz b off hin
  ·intro ha
   have:=hn ha
   rw [hps] at this
   simpa using this
  ·intro p hp _
   rw [hps]
   simpa using hp
theorem below_trodAll (hl : laidOutB P = true) {W W' : World} (hb : Below W.heap.size W W') {sp : Nat → Bool} : ∀ (ts : List TypeId) (vs : List Value) (ds : List (DataW H)) (ps : List MemPlace),
  (∀ t ∈ ts,P.readableRec t = true ∧ t < P.types.size) → DataW.TrodAll enc P W 0 (fun _ => true) true ts vs ds ps → (∀ x ∈ ps,x.block < W.heap.size) → (∀ x ∈ ps,sp x.block = true) →
  DataW.TrodAll enc P W' 0 sp true ts vs ds ps
 | [],[],[],_,_,h,_,_ => h
 | t :: ts,v :: vs,d :: ds,ps,ht,h,hlt,hs => by
  obtain ⟨p,q,h1,h2,rfl⟩:=h
  refine ⟨p,q,?_,below_trodAll hl hb ts vs ds q (fun u hu => ht u (List.mem_cons_of_mem _ hu)) h2 (fun x hx => hlt x (List.mem_append_right _ hx)) (fun x hx => hs x (List.mem_append_right _ hx)),rfl⟩
  exact WideElems.Trod_stays hl (ht t (List.mem_cons_self ..)).1 (ht t (List.mem_cons_self ..)).2 h1 (fun x hx => hb.same (hlt x (List.mem_append_left _ hx))) (fun x hx => hs x (List.mem_append_left _ hx))
 | [],[],_ :: _,_,_,h,_,_ => h.elim
 | [],_ :: _,_,_,_,h,_,_ => h.elim
 | _ :: _,[],_,_,_,h,_,_ => h.elim
 | _ :: _,_ :: _,[],_,_,h,_,_ => h.elim
theorem trodAll_length {W : World} {base : Nat} {sp : Nat → Bool} {hd : Bool} : ∀ (ts : List TypeId) (vs : List Value) (ds : List (DataW H)) (ps : List MemPlace),DataW.TrodAll enc P W base sp hd ts vs ds ps → ds.length = ts.length
 | [],[],[],_,_ => rfl
 | _ :: ts,_ :: vs,_ :: ds,_,h => by
  obtain ⟨_,_,_,h2,_⟩:=h
  simp [trodAll_length ts vs ds _ h2]
 | [],[],_ :: _,_,h => h.elim
 | [],_ :: _,_,_,h => h.elim
 | _ :: _,[],_,_,h => h.elim
 | _ :: _,_ :: _,[],_,h => h.elim
end
theorem wf_u32 {n : Int} (h : (Lit.int .u32 n).wf = true) : 0 ≤ n ∧ n < 4294967296:=by
 have:=bounds_u32 h; omega
theorem wf_u16 {n : Int} (h : (Lit.int .u16 n).wf = true) : 0 ≤ n ∧ n < 65536:=by
 have:=bounds_u16 h; omega
def LawWalk (f : FuncId) (fn : Func) : Prop :=
 ∀ (H : Type) (enc : TypeId × Value → H) (W : World) (base : Nat) (args : Array Value) (ds : List (DataW H)) (p : List MemPlace),
  (∀ (j : Nat) t v,fn.params[j]? = some t → args[j]? = some v → Value.okWide Try.prog W .any base t v) →
  DataW.TrodAll enc Try.prog W 0 (fun _ => true) true fn.params.toList args.toList ds p →
  Calls Try.prog f args W fun e W' => e = .returned (.bool true) ∧ Below W.heap.size W W'
set_option maxRecDepth 100000 in
theorem law_lifted (f : FuncId) (fn : Func) (s : ChangeSpec) (conds : List PathCond) (hfn : Try.prog.funcs[f]? = some fn) (noInit : Try.prog.inits.idxOf? f = none)
  (hres : fn.resultTypes = #[4])
  (hvars : s.vars = []) (hspec : ∀ (H : Type) (ds : List (DataW H)),ds.length = fn.params.toList.length → (s.fn H (ds ++ [])).results = [.lit (.bool true)] ∧ (s.fn H (ds ++ [])).args = ds ∧ (s.fn H (ds ++ [])).vars = [])
  (hts : ∀ t ∈ fn.params.toList,Try.prog.readableRec t = true ∧ t < Try.prog.types.size)
  (walk : LawWalk f fn) (os : Os) (started : os.Started) (H : Type) (enc : TypeId × Value → H)
  (witness : ∃ (w : World) (tape : Tape) (i : Input),w.os = os ∧ (w.forCall tape i).Shaped Try.checked.prog ∧ i.vars = [] ∧ Input.okWide Try.checked.prog (w.forCall tape i) .any w.heap.size f i ∧
   s.pre6 enc Try.checked.prog fn conds false (w.forCall tape i).memory i.args ∧ ({} : Assume).holds Try.checked.prog (lone (Frame.enter Try.checked.prog f i.args .normal) [] (w.forCall tape i))) :
  ReturnsInHanded {} Try.checked os f .any (s.pre6 enc Try.prog fn conds false) (s.post enc Try.prog fn false true false false):=by
 refine returnsInHanded_of_change (C:=Try.checked) own started noInit hfn witness ?_
 intro W base args ds gs before hval0 hW _ _
 have hW':=hW
 obtain ⟨p,q,hA,hV,rfl,_,_⟩:=hW
 rw [hvars] at hV
 obtain ⟨rfl,rfl⟩:=trodVars_none hV
 obtain ⟨e1,e2,e3⟩:=hspec H ds (trodAll_length _ _ _ _ hA)
 refine (walk H enc W base args ds p hval0 hA).mono fun e W' ⟨he,hg⟩ => ?_
 subst he
 refine ⟨_,rfl,post_of_below (pa:=p) (pv:=[]) hW' (fun b sp hd => ?_) (fun sp hsp => ?_) (fun sp _ => ?_) rfl hg ?_⟩
 ·rw [e1,hres]
  exact trodAll_mk1 (shut_bool Try.underlying4 _)
 ·rw [e2]
  exact below_trodAll laidOut hg _ _ _ _ hts hA (fun x hx => hW'.lt x (List.mem_append_left _ hx)) (fun x hx => hsp x (List.mem_append_left _ hx))
 ·rw [e3,hvars]; rfl
 ·exact ok_one hres rfl (okWide_bool_mk Try.underlying4 _)
end Go.Proofs.Ytdljpnebpoaeiaa
namespace Go.Proofs.Ytdljpnebpoaeiaa
open Go.ChangeShapes Go.WideShapes Go.Deep
section
variable {H : Type} {enc : TypeId × Value → H} {P : Program} {w : World} {base : Nat} {spare : Nat → Bool} {held : Bool}
theorem open_slice_fields {t e : TypeId} {fs : Array Field} {fuel : Nat} {cs : List Value} {x : DataW H × List MemPlace} (ht : P.underlying t = some (.slice e)) (he : P.underlying e = some (.struct fs))
  (hone : oneCellFields P fs = true) (hC : P.cellsOf e = fs.size) (h : DataW.trod enc P w base spare held fuel t cs = some x) :
  (cs = [.slice none 0 0] ∧ x = (.nil,[])) ∨
  ∃ (a : Addr) (len cap m : Nat) (D : Nat → DataW H) (Pl : Nat → List MemPlace),cs = [.slice (some a) len cap] ∧ base ≤ a.block ∧ len ≤ cap ∧ cap ≤ maxLen ∧ m = (if spare a.block then cap else len) ∧
   x = (.slice ((List.range len).map D) ((List.range (m - len)).map fun j => D (len + j)),MemPlace.row a (m * fs.size) ++ (List.range m).flatMap Pl) ∧
   ∀ i,i < m → ∃ (ys : List (DataW H × List MemPlace)) (n : Nat),D i = .agg (ys.map (·.1)) ∧ Pl i = ys.flatMap (·.2) ∧ ys.length = fs.size ∧
    ∀ (j : Nat) (f : Field),fs[j]? = some f → ∃ (v : Value) (y : DataW H × List MemPlace),w.cell? (a.add (i * fs.size + j)) = some v ∧ ys[j]? = some y ∧ DataW.trod enc P w base spare held n f.type [v] = some y:=by
 rcases open_slice ht h with h0 | ⟨a,len,cap,m,n,D,Pl,hcs,hb,hl,hm,hmm,hx,hi⟩
 ·exact .inl h0
 ·refine .inr ⟨a,len,cap,m,D,Pl,hcs,hb,hl,hm,hmm,by rw [hC] at hx; exact hx,fun i him => ?_⟩
  obtain ⟨cs',hc,ht'⟩:=hi i him
  rw [hC] at hc
  obtain ⟨ys,n',hn',hy,hlen,hyl,hf⟩:=DataW.trod_struct he ht'
  obtain ⟨_,hcl,hat⟩:=World.cells?_some hc
  simp only [rr, tt, Prod.mk.injEq] at hy
  refine ⟨ys,n',hy.1,hy.2,hyl,fun j f hj => ?_⟩
  obtain ⟨ho,hk⟩:=hone_of hone j f hj
  have hjl : j < fs.size:=(Array.getElem?_eq_some_iff.1 hj).1
  have hcell:=hat j hjl
  have hv : cs'[j]? = some (cs'[j]'(by omega)):=List.getElem?_eq_getElem (by omega)
  have h1:=hf j f hj
  rw [ho,hk] at h1
  have hone' : (cs'.drop j).take 1 = [cs'[j]'(by omega)]:=by
   rw [List.drop_eq_getElem_cons (by omega)]
   rfl
  rw [hone'] at h1
  have hys : ys[j]? = some (ys[j]'(by omega)):=List.getElem?_eq_getElem (by omega)
  refine ⟨_,_,?_,hys,h1.trans hys⟩
  rw [← Go.Deep.add_add,hcell,hv]
end
end Go.Proofs.Ytdljpnebpoaeiaa
namespace Go.Proofs.Ytdljpnebpoaeiaa
open Go.ChangeShapes Go.WideShapes Go.Deep Go.RowKit
section
variable {H : Type} {enc : TypeId × Value → H} {P : Program} {w : World} {base : Nat} {spare : Nat → Bool} {held : Bool}
theorem open_agg_all {r : Reach} {b0 : Nat} {t : TypeId} {fs : Array Field} {v : Value} {d : DataW H} {p : List MemPlace} (hs : P.underlying t = some (.struct fs)) (hone : oneCellFields P fs = true) (hC : P.cellsOf t = fs.size)
  (hv : Value.okWide P w r b0 t v) (h : DataW.Trod enc P w base spare held t v d p) :
  ∃ cs : List Value,v = .agg cs.toArray ∧ cs.length = fs.size ∧ ∀ (j : Nat) (f : Field),fs[j]? = some f → ∃ (u : Value) (y : DataW H × List MemPlace) (n : Nat),cs[j]? = some u ∧ DataW.trod enc P w base spare held n f.type [u] = some y:=by
 obtain ⟨cs,rfl,hsz⟩:=okWide_struct hs hv
 obtain ⟨l⟩:=cs
 refine ⟨l,rfl,hsz.trans hC,fun j f hj => ?_⟩
 obtain ⟨fuel,hf⟩:=h
 obtain ⟨xs,n,_,hx,_,hlen,hg⟩:=DataW.trod_struct hs hf
 obtain ⟨o,k⟩:=hone_of hone j f hj
 have hjl : j < fs.size:=(Array.getElem?_eq_some_iff.1 hj).1
 have hl : l.length = fs.size:=hsz.trans hC
 have h1:=hg j f hj
 rw [o,k] at h1
 simp only [rr, tt, Value.cells] at h1
 have hone' : (l.drop j).take 1 = [l[j]'(by omega)]:=by
  rw [List.drop_eq_getElem_cons (by omega)]
  rfl
 rw [hone'] at h1
 exact ⟨l[j]'(by omega),xs[j]'(by omega),n,List.getElem?_eq_getElem (by omega),h1.trans (List.getElem?_eq_getElem (by omega))⟩
end
end Go.Proofs.Ytdljpnebpoaeiaa
