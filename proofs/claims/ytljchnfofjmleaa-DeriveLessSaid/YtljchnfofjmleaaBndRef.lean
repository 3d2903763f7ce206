/-
  Walks of the document's answer for layer 3.
-/
import Derived.Test.YtljchnfofjmleaaBndB
import Derived.Test.YtljchnfofjmleaaBndC
import Derived.Deep.RegionWith
namespace Go.Proofs.Ytljchnfofjmleaa
open Go.RowKit

theorem may_any (e b t : Nat) (w : World) (he : e < 256) (hb : b < 65536) (ht : t < 65536) :
    Calls Try.prog 75 #[.int .u8 e, .int .u16 b, .int .u16 t] w fun e' w' => e' = .returned (.bool (mayN e b t)) ∧ w = w' := by
  have hm : mayN e b t = (decide ((e : Int) ≤ 21) && decide ((b : Int) < 4096) && decide ((t : Int) < 4096)) := by
    unfold mayN
    have e1 : decide (e ≤ 21) = decide ((e : Int) ≤ 21) := by rw [decide_eq_decide]; omega
    have e2 : decide (b < 4096) = decide ((b : Int) < 4096) := by rw [decide_eq_decide]; omega
    have e3 : decide (t < 4096) = decide ((t : Int) < 4096) := by rw [decide_eq_decide]; omega
    rw [e1, e2, e3]
  rw [hm]
  by_cases h1 : (e : Int) ≤ 21
  · by_cases h2 : (b : Int) < 4096
    · have d1 : decide ((e : Int) ≤ 21) = true := by simpa using h1
      have d2 : decide ((b : Int) < 4096) = true := by simpa using h2
      go_enter Try.func75, Try.ntmps75
      go_wp2
      go_ret
      exact ⟨ret_bool (by simp [h1, h2]), rfl⟩
    · have d2 : decide ((b : Int) < 4096) = false := by simpa using h2
      go_enter Try.func75, Try.ntmps75
      go_wp2
      go_ret
      exact ⟨ret_bool (by simp), rfl⟩
  · have d1 : decide ((e : Int) ≤ 21) = false := by simpa using h1
    go_enter Try.func75, Try.ntmps75
    go_wp2
    go_ret
    exact ⟨ret_bool (by simp), rfl⟩
theorem may_is (e b t : Nat) (k : Bool) (w : World) (he : e < 256) (hb : b < 65536) (ht : t < 65536) (hk : mayN e b t = k) :
    Calls Try.prog 75 #[.int .u8 e, .int .u16 b, .int .u16 t] w fun e' w' => e' = .returned (.bool k) ∧ w = w' := by
  rw [← hk]; exact may_any e b t w he hb ht

theorem ret3_bool {a b : Value} {x y : Bool} (h : x = y) : Ending.returned (.tuple #[a, b, .bool x]) = .returned (.tuple #[a, b, .bool y]) := by rw [h]
theorem rturn_is (x edge k : Nat) (w : World) (h : turnN x edge = k) :
    Calls Try.prog 76 #[.int .i64 x, .int .i64 edge] w fun e' w' => e' = .returned (.int .i64 k) ∧ w = w' := by
  have e : (if (x : Int) < edge then 1 else 0 : Int) = (k : Int) := by rw [← h]; unfold turnN; split <;> split <;> omega
  have := rturn_any x edge w
  rwa [e] at this
theorem prod_bd {U : Nat} (hp : U ≤ 2097152) (z : Int) (h1 : -2 ≤ z) (h2 : z ≤ 2097152) : -4398046511104 ≤ z * U ∧ z * U ≤ 4398046511104 := by
  have a1 : z * (U : Int) ≤ 2097152 * (U : Int) := Int.mul_le_mul_of_nonneg_right h2 (by omega)
  have a2 : -2 * (U : Int) ≤ z * (U : Int) := Int.mul_le_mul_of_nonneg_right h1 (by omega)
  omega
theorem of_eq (h tm tx x U : Int) : ((h - tm + tx) * 4096 + x) * U = (h + tx - tm) * U * 4096 + x * U := by
  rw [Int.add_mul, show h - tm + tx = h + tx - tm by omega, Int.mul_right_comm]

set_option maxHeartbeats 1000000 in
theorem rtell_yes (e b t c : Nat) (w : World) (he : e ≤ 21) (hb : b < 4096) (ht0 : t < 4096) (hc : c < 4294967296) :
    Calls Try.prog 66 #[.int .u8 e, .int .u16 b, .int .u16 t, .int .u32 c] w fun e' w' => e' = .returned (.tuple #[.int .i64 (tellB e b t c), .int .i64 (tellT e b t c), .bool (tellOk e b t c)]) ∧ w = w' := by
  have hmay := mayN_mk he hb ht0
  have hp := pow_le_21 he
  have h0 := pow_pos2 e
  have hpw : wrap64 ((2 : Int) ^ e) = ((2 ^ e : Nat) : Int) := by
    rw [show ((2 : Int) ^ e) = ((2 ^ e : Nat) : Int) by simp]; exact IntWalk.wrap64_in _ (by omega)
  have hB0 : tellB e b t c = ofN e b c b := by unfold tellB; rw [if_pos hmay]
  have hT0 : tellT e b t c = ofN e b c t := by unfold tellT; rw [if_pos hmay]
  have hok : tellOk e b t c = (decide (0 ≤ tellB e b t c) && decide (tellB e b t c ≤ tellT e b t c) && decide (tellT e b t c ≤ 4294967296)) := by
    unfold tellOk; rw [hmay]; rfl
  have hmI : ((2 : Int) ^ e) = ((2 ^ e : Nat) : Int) := by simp
  rw [hok, hB0, hT0]
  unfold ofN highN
  rw [hmI]
  obtain ⟨U, hU⟩ : ∃ U, 2 ^ e = U := ⟨_, rfl⟩
  rw [hU] at hp h0 hpw ⊢
  obtain ⟨q, hq⟩ : ∃ q, c / U = q := ⟨_, rfl⟩
  obtain ⟨h, hh⟩ : ∃ h, q / 4096 = h := ⟨_, rfl⟩
  obtain ⟨m, hm⟩ : ∃ m, q % 4096 = m := ⟨_, rfl⟩
  obtain ⟨edge, hed⟩ : ∃ k, edgeN b = k := ⟨_, rfl⟩
  obtain ⟨tm, htm⟩ : ∃ k, turnN m edge = k := ⟨_, rfl⟩
  obtain ⟨tb, htb⟩ : ∃ k, turnN b edge = k := ⟨_, rfl⟩
  obtain ⟨tt, htt⟩ : ∃ k, turnN t edge = k := ⟨_, rfl⟩
  have ht1 := turnN_le m edge
  have ht2 := turnN_le b edge
  have ht3 := turnN_le t edge
  rw [hq, hh, hm, hed, htm, htb, htt, of_eq, of_eq]
  rw [htm] at ht1
  rw [htb] at ht2
  rw [htt] at ht3
  have hql : q ≤ 4294967295 := by rw [← hq]; exact Nat.le_trans (Nat.div_le_self _ _) (by omega)
  have hhl : h ≤ 1048575 := by omega
  have r1 : (c : Int) / ((U : Int) * 4096) = (h : Int) := by
    rw [← hh, ← hq, Nat.div_div_eq_div_mul]; simp
  have r2 : (c : Int) / (U : Int) = (q : Int) := by rw [← hq]; simp
  have r3 : (q : Int) % 4096 = (m : Int) := by rw [← hm]; simp
  have r4 : ((b : Int) + 3072) % 4096 = (edge : Int) := by rw [← hed]; unfold edgeN; simp
  have b1 := prod_bd hp ((h : Int) + tb - tm) (by omega) (by omega)
  have b2 := prod_bd hp ((h : Int) + tt - tm) (by omega) (by omega)
  have b3 := prod_bd hp (b : Int) (by omega) (by omega)
  have b4 := prod_bd hp (t : Int) (by omega) (by omega)
  obtain ⟨pb, hpb⟩ : ∃ x : Int, ((h : Int) + tb - tm) * U = x := ⟨_, rfl⟩
  obtain ⟨pt, hpt⟩ : ∃ x : Int, ((h : Int) + tt - tm) * U = x := ⟨_, rfl⟩
  obtain ⟨qb, hqb⟩ : ∃ x : Int, (b : Int) * U = x := ⟨_, rfl⟩
  obtain ⟨qt, hqt⟩ : ∃ x : Int, (t : Int) * U = x := ⟨_, rfl⟩
  rw [hpb] at b1 ⊢
  rw [hpt] at b2 ⊢
  rw [hqb] at b3 ⊢
  rw [hqt] at b4 ⊢
  have HM := hide hmay
  have HTM := hide htm
  have HTB := hide htb
  have HTT := hide htt
  clear hmay hB0 hT0 hok hmI hU hq hh hm hed htm htb htt
  by_cases c1 : 0 ≤ pb * 4096 + qb
  · by_cases c2 : pb * 4096 + qb ≤ pt * 4096 + qt
    · go_enter Try.func66, Try.ntmps66
      go_wp2_with fail
      refine (may_is e b t true _ (by omega) (by omega) (by omega) HM.out).mono ?_
      rintro e' w' ⟨rfl, rfl⟩
      go_wp2_with (first
        | (go_at_call_of 76 (Value.int .i64 (m : Int)); refine (rturn_is m edge tm _ HTM.out).mono ?_; rintro e' w' ⟨rfl, rfl⟩)
        | (go_at_call_of 76 (Value.int .i64 (b : Int)); refine (rturn_is b edge tb _ HTB.out).mono ?_; rintro e' w' ⟨rfl, rfl⟩)
        | (go_at_call_of 76 (Value.int .i64 (t : Int)); refine (rturn_is t edge tt _ HTT.out).mono ?_; rintro e' w' ⟨rfl, rfl⟩))
      go_ret3
      exact ⟨ret3_bool (by simp [c1, c2]), rfl⟩
    · have d1 : decide (pb * 4096 + qb ≤ pt * 4096 + qt) = false := by simp; omega
      go_enter Try.func66, Try.ntmps66
      go_wp2_with fail
      refine (may_is e b t true _ (by omega) (by omega) (by omega) HM.out).mono ?_
      rintro e' w' ⟨rfl, rfl⟩
      go_wp2_with (first
        | (go_at_call_of 76 (Value.int .i64 (m : Int)); refine (rturn_is m edge tm _ HTM.out).mono ?_; rintro e' w' ⟨rfl, rfl⟩)
        | (go_at_call_of 76 (Value.int .i64 (b : Int)); refine (rturn_is b edge tb _ HTB.out).mono ?_; rintro e' w' ⟨rfl, rfl⟩)
        | (go_at_call_of 76 (Value.int .i64 (t : Int)); refine (rturn_is t edge tt _ HTT.out).mono ?_; rintro e' w' ⟨rfl, rfl⟩))
      go_ret3
      exact ⟨ret3_bool (by simp [d1]), rfl⟩
  · have d1 : decide (0 ≤ pb * 4096 + qb) = false := by simp; omega
    go_enter Try.func66, Try.ntmps66
    go_wp2_with fail
    refine (may_is e b t true _ (by omega) (by omega) (by omega) HM.out).mono ?_
    rintro e' w' ⟨rfl, rfl⟩
    go_wp2_with (first
      | (go_at_call_of 76 (Value.int .i64 (m : Int)); refine (rturn_is m edge tm _ HTM.out).mono ?_; rintro e' w' ⟨rfl, rfl⟩)
      | (go_at_call_of 76 (Value.int .i64 (b : Int)); refine (rturn_is b edge tb _ HTB.out).mono ?_; rintro e' w' ⟨rfl, rfl⟩)
      | (go_at_call_of 76 (Value.int .i64 (t : Int)); refine (rturn_is t edge tt _ HTT.out).mono ?_; rintro e' w' ⟨rfl, rfl⟩))
    go_ret3
    exact ⟨ret3_bool (by simp [d1]), rfl⟩

theorem rtell_any (e b t c : Nat) (w : World) (he : e < 256) (hb : b < 65536) (ht : t < 65536) (hc : c < 4294967296) :
    Calls Try.prog 66 #[.int .u8 e, .int .u16 b, .int .u16 t, .int .u32 c] w fun e' w' => e' = .returned (.tuple #[.int .i64 (tellB e b t c), .int .i64 (tellT e b t c), .bool (tellOk e b t c)]) ∧ w = w' := by
  by_cases h : mayN e b t = true
  · obtain ⟨h1, h2, h3⟩ := mayN_true h
    exact rtell_yes e b t c w h1 h2 h3 hc
  · have h' : mayN e b t = false := by simpa using h
    have e1 : tellB e b t c = 0 := by unfold tellB; rw [if_neg h]
    have e2 : tellT e b t c = 0 := by unfold tellT; rw [if_neg h]
    have e3 : tellOk e b t c = false := by unfold tellOk; rw [h']; rfl
    rw [e1, e2, e3]
    have HM := hide h'
    clear h h' e1 e2 e3
    go_enter Try.func66, Try.ntmps66
    go_wp2_with (go_at_call 75; refine (may_is e b t false _ he hb ht HM.out).mono ?_; rintro e' w' ⟨rfl, rfl⟩)
    go_ret3
    exact ⟨rfl, rfl⟩

theorem rdecode_any (e b t c : Nat) (w : World) (he : e < 256) (hb : b < 65536) (ht : t < 65536) (hc : c < 4294967296) :
    Calls Try.prog 72 #[.int .u8 e, .int .u16 b, .int .u16 t, .int .u32 c] w fun e' w' => e' = .returned (.tuple #[.int .u32 (decN e b t c).1, .int .u64 (decN e b t c).2]) ∧ w = w' := by
  have hta := fun W => rtell_any e b t c W he hb ht hc
  by_cases h1 : tellOk e b t c = true
  · obtain ⟨k0, k1, k2⟩ := tellOk_true h1
    obtain ⟨B, hB⟩ : ∃ B : Nat, tellB e b t c = B := ⟨(tellB e b t c).toNat, by omega⟩
    obtain ⟨T, hT⟩ : ∃ T : Nat, tellT e b t c = T := ⟨(tellT e b t c).toNat, by omega⟩
    simp only [h1, hB, hT] at hta
    rw [hB, hT] at k1
    rw [hT] at k2
    by_cases h2 : (B : Int) = 4294967296
    · have hd : decN e b t c = (0, 0) := by unfold decN; rw [if_neg (by rw [hB]; exact fun h => h.2 h2)]
      rw [hd]
      have h3 : ((B : Int) == 4294967296) = true := by simpa using h2
      have HTA := hide hta
      clear hta h2 k0 k1 k2 h1 hB hT hd
      go_enter Try.func72, Try.ntmps72
      go_wp2_with (go_at_call 66; refine (HTA.out _).mono ?_; rintro e' w1 ⟨rfl, rfl⟩)
      go_ret2
      exact ⟨rfl, rfl⟩
    · have hd : decN e b t c = (B, T) := by unfold decN; rw [if_pos ⟨h1, by rw [hB]; exact h2⟩, hB, hT]; rfl
      rw [hd]
      have h3 : ((B : Int) == 4294967296) = false := by simpa using h2
      have HTA := hide hta
      have k3 : (B : Int) < 4294967296 := by omega
      clear hta h2 h1 hB hT hd
      go_enter Try.func72, Try.ntmps72
      go_wp2_with (go_at_call 66; refine (HTA.out _).mono ?_; rintro e' w1 ⟨rfl, rfl⟩)
      go_ret2
      exact ⟨rfl, rfl⟩
  · have h1' : tellOk e b t c = false := by simpa using h1
    have hd : decN e b t c = (0, 0) := by unfold decN; rw [if_neg (fun h => h1 h.1)]
    rw [hd]
    simp only [h1'] at hta
    have HTA := hide hta
    clear hta h1 h1' hd
    go_enter Try.func72, Try.ntmps72
    go_wp2_with (go_at_call 66; refine (HTA.out _).mono ?_; rintro e' w1 ⟨rfl, rfl⟩)
    go_ret2
    exact ⟨rfl, rfl⟩

theorem rkeeps_any (e b t c n : Nat) (w : World) (he : e < 256) (hb : b < 65536) (ht : t < 65536) (hc : c < 4294967296) (hn : n < 4294967296) :
    Calls Try.prog 49 #[.int .u8 e, .int .u16 b, .int .u16 t, .int .u32 c, .int .u32 n] w fun e' w' => e' = .returned (.bool (keepsN e b t c n)) ∧ w = w' := by
  have hta := fun W => rtell_any e b t c W he hb ht hc
  have htb := fun W => rtell_any e b t n W he hb ht hn
  unfold keepsN
  obtain ⟨B, hB⟩ : ∃ B, tellB e b t c = B := ⟨_, rfl⟩
  obtain ⟨T, hT⟩ : ∃ T, tellT e b t c = T := ⟨_, rfl⟩
  obtain ⟨B', hB'⟩ : ∃ B, tellB e b t n = B := ⟨_, rfl⟩
  obtain ⟨T', hT'⟩ : ∃ T, tellT e b t n = T := ⟨_, rfl⟩
  obtain ⟨k, hk⟩ : ∃ k, tellOk e b t c = k := ⟨_, rfl⟩
  obtain ⟨k', hk'⟩ : ∃ k, tellOk e b t n = k := ⟨_, rfl⟩
  rw [hB, hT, hk] at hta
  rw [hB', hT', hk'] at htb
  rw [hB, hT, hB', hT', hk]
  have HTA := hide hta
  have HTB := hide htb
  clear hta htb hB hT hB' hT' hk hk'
  rcases k with _ | _
  · go_enter Try.func49, Try.ntmps49
    go_wp2_with fail
    refine (HTA.out _).mono ?_
    rintro e' w1 ⟨rfl, rfl⟩
    go_wp2_with fail
    refine (HTB.out _).mono ?_
    rintro e' w2 ⟨rfl, rfl⟩
    go_wp2
    go_ret
    exact ⟨rfl, rfl⟩
  · by_cases c1 : B = B'
    · have d1 : (B == B') = true := by simpa using c1
      have C1 := hide c1
      clear c1
      go_enter Try.func49, Try.ntmps49
      go_wp2_with fail
      refine (HTA.out _).mono ?_
      rintro e' w1 ⟨rfl, rfl⟩
      go_wp2_with fail
      refine (HTB.out _).mono ?_
      rintro e' w2 ⟨rfl, rfl⟩
      go_wp2
      go_ret
      exact ⟨ret_bool (by rw [C1.out]; simp [Bool.beq_eq_decide_eq]), rfl⟩
    · have d1 : (B == B') = false := by simpa using c1
      have C1 := hide c1
      clear c1
      go_enter Try.func49, Try.ntmps49
      go_wp2_with fail
      refine (HTA.out _).mono ?_
      rintro e' w1 ⟨rfl, rfl⟩
      go_wp2_with fail
      refine (HTB.out _).mono ?_
      rintro e' w2 ⟨rfl, rfl⟩
      go_wp2
      go_ret
      exact ⟨ret_bool (by rw [decide_eq_false C1.out]; rfl), rfl⟩
end Go.Proofs.Ytljchnfofjmleaa
