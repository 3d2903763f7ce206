/-
  Chapter 21: may a relocation be? the document's answer, as a contract.
-/
import Derived.Test.YtdljpnebpoaeiaaImgK
import Derived.Test.YtdljpnebpoaeiaaImgL
namespace Go.Proofs.Ytdljpnebpoaeiaa
open Go.RowKit
open Sy
set_option linter.unusedSimpArgs false

/-- what a relocation must lie behind -/
def behindN (rs : List Rl) (k : Nat) : Nat := match k with | 0 => 0 | k + 1 => (rl0 rs k).at_ + 16
def relocC (pages stack types : Int) (nc ns : Nat) (data : List UInt8) (a : Nat) (b : Int) (c : Nat) (d e f g h : Int) (rs : List Rl) (k : Nat) : Con :=
  ⟨[imgV pages stack types nc rs.length ns data, layW a b c d e f g h, .int .i64 (k : Int)], 67, [(65, ⟨false, some (0, 0), rels rs, none⟩)], [], .bool (relRight types nc data.length a c (rl0 rs k) (behindN rs k)), 67, [(65, ⟨false, some (0, 0), rels rs, none⟩)], []⟩
def relocOk (nc len a c : Nat) (rs : List Rl) (k : Nat) : Prop :=
  rightOk nc len a c (rl0 rs k) ∧ k < rs.length ∧ rs.length ≤ 100000 ∧ match k with | 0 => True | k + 1 => (rl0 rs k).at_ % 16 = 0 ∧ (rl0 rs k).at_ + 16 ≤ len
theorem relWf (pages stack types : Int) (nc ns : Nat) (data : List UInt8) (a : Nat) (b : Int) (c : Nat) (d e f g h : Int) (rs : List Rl) (k : Nat) : (relocC pages stack types nc ns data a b c d e f g h rs k).Wf 3 :=
  ⟨by show NG ≤ 67; decide, Nat.le_refl _, ⟨⟨rfl, rfl, flat_bnd (rels_flat rs)⟩, trivial⟩, rfl, rfl, rfl, by kernel_rfl, rfl, fun x hx v hv => by
    obtain rfl := List.mem_singleton.1 hx
    exact okV_flat0 (rels_flat rs v hv) 3⟩
theorem reloc_any {pages stack types : Int} {nc ns : Nat} {data : List UInt8} {a : Nat} {b : Int} {c : Nat} {d e f g h : Int} {rs : List Rl} {k : Nat} {T : List (Nat × Bool)} {v : Value} {n k' : Nat} {q : Prop}
    (hr : evF Try.prog (baseC 3 selK) noLoop 100 10 30 [imgV pages stack types nc rs.length ns data, layW a b c d e f g h, .int .i64 (k : Int)] ⟨67, [(65, ⟨false, some (0, 0), rels rs, none⟩)], [], 0, T, 0, True⟩ = some (v, ⟨n, [(65, ⟨false, some (0, 0), rels rs, none⟩)], [], 0, [], k', q⟩))
    (hv : v = .bool (relRight types nc data.length a c (rl0 rs k) (behindN rs k))) (hq : q) : ConOk Try.prog 30 3 (relocC pages stack types nc ns data a b c d e f g h rs k) := by
  subst hv
  refine conOk_run (run_ok i_names (baseC_ok selK_ok) (noLoop_ok _) 10) (relWf pages stack types nc ns data a b c d e f g h rs k) (T := T) (p := fun l => Nat.blt l 67) (σ := id) hr hq ?_
  exact ⟨fun _ _ => rfl, ⟨⟨rfl, flat_all (rels_flat rs), rfl, rfl, rfl, trivial, (flat_map (rels_flat rs)).symm⟩, trivial⟩, rfl, trivial, ⟨rfl, rfl⟩, rfl, ⟨⟨rfl, rfl, flat_bnd (rels_flat rs)⟩, trivial⟩, rfl, bnd_flat0 _ rfl, fun x _ _ => .inl rfl⟩

theorem reloc_0 (pages stack types : Int) (nc ns : Nat) (data : List UInt8) (a : Nat) (b : Int) (c : Nat) (d e f g h : Int) (rs : List Rl) (hq : relocOk nc data.length a c rs 0) : ConOk Try.prog 30 3 (relocC pages stack types nc ns data a b c d e f g h rs 0) := by
  obtain ⟨⟨hr, hn, hl, ha, hc⟩, hk, hm, hp⟩ := hq
  rcases hrr : rl0 rs 0 with ⟨at_, code, off, size, perms, typ⟩
  rw [hrr] at hr
  have f0 : intOf' (getD' undef (rels rs) 0) = (at_ : Int) := by
    have := rels_0 hk; rw [hrr] at this; exact this
  have f1 : boolOf' (getD' undef (rels rs) 1) = code := by
    have := rels_1 hk; rw [hrr] at this; exact this
  have f2 : intOf' (getD' undef (rels rs) 2) = (off : Int) := by
    have := rels_2 hk; rw [hrr] at this; exact this
  have f3 : intOf' (getD' undef (rels rs) 3) = (size : Int) := by
    have := rels_3 hk; rw [hrr] at this; exact this
  have f4 : intOf' (getD' undef (rels rs) 4) = (perms : Int) := by
    have := rels_4 hk; rw [hrr] at this; exact this
  have f5 : intOf' (getD' undef (rels rs) 5) = (typ : Int) := by
    have := rels_5 hk; rw [hrr] at this; exact this
  have g1 : hasN 6 (rels rs) = true := by rw [rels_has]; simp; omega
  have g2 : isLikeL [Value.int IntKind.u32 (0 : Int), Value.bool false, Value.int IntKind.u32 (0 : Int), Value.int IntKind.u32 (0 : Int), Value.int IntKind.u16 (0 : Int), Value.int IntKind.u16 (0 : Int)] (rels rs) 0 = true := rels_like (k := 0) hk _ _ _ _ _ _
  have g3 : decide ((0 : Int) < (rs.length : Int)) = true := by simp; omega
  have hb4 : IntKind.u64.wrap ((4 : Int) * IntKind.u64.wrap (nc : Int)) = IntKind.u64.wrap ((4 * nc : Nat) : Int) := by rw [IntKind.wrap_u64, IntKind.wrap_u64, IntKind.wrap_u64]; omega
  have hbh : behindN rs 0 = 0 := rfl
  cases code
  · have hor := right_or types nc data.length false at_ off size perms typ data.length 155 0 hr hn hl rfl rfl
    cases hA : ((at_ : Int).tmod 16 != 0)
    · have ha0 : at_ % 16 = 0 := by
        rw [show (16 : Int) = ((16 : Nat) : Int) from rfl, ← Int.ofNat_tmod] at hA; simp only [bne_eq_false_iff_eq] at hA; omega
      have hB0 : decide ((at_ : Int) < ((0 : Nat) : Int)) = false := by simp
      · cases hC : decide (IntKind.u64.wrap (IntKind.u64.wrap (at_ : Int) + 16) > IntKind.u64.wrap (data.length : Int))
        · cases hD : decide (IntKind.u64.wrap (IntKind.u64.wrap (off : Int) + IntKind.u64.wrap (size : Int)) > IntKind.u64.wrap (data.length : Int))
          · cases hE : (bits BinOp.andNot IntKind.u16 (perms : Int) 155 != 0)
            · cases hF : decide (IntKind.i64.wrap (typ : Int) > types)
              · have ho : off + size ≤ 16384 := by
                  rw [IntKind.wrap_u64, IntKind.wrap_u64, IntKind.wrap_u64, IntKind.wrap_u64] at hD; have := hr.off; have := hr.size; simp only [decide_eq_false_iff_not] at *; omega
                have e1 : IntKind.u32.wrap ((c : Int) + (off : Int)) = ((c + off : Nat) : Int) := by rw [IntKind.wrap_u32]; omega
                have e2 : IntKind.u64.wrap (IntKind.u64.wrap ((c + off : Nat) : Int) + IntKind.u64.wrap (size : Int)) = ((c + off + size : Nat) : Int) := by rw [IntKind.wrap_u64, IntKind.wrap_u64, IntKind.wrap_u64]; omega
                have z1 : (0 : Int) ≤ ((c + off : Nat) : Int) := by omega
                have z2 : ((c + off : Nat) : Int) < 4294967296 := by omega
                have z3 : (0 : Int) ≤ ((c + off + size : Nat) : Int) := by omega
                have z4 : ((c + off + size : Nat) : Int) < 18446744073709551616 := by omega
                have z5 : rightN (c + off) (c + off + size) = true := by unfold rightN; simp; omega
                have hh := rl_g0d pages stack types nc rs.length ns data a b c d e f g h rs
                try rw [f0] at hh
                try rw [f1] at hh
                try rw [f2] at hh
                try rw [f3] at hh
                try rw [f4] at hh
                try rw [f5] at hh
                try rw [lenT_eq] at hh
                rw [e1, e2, Int.toNat_natCast, Int.toNat_natCast] at hh
                refine reloc_any hh ?_ ?_
                · rw [hrr, hbh]; unfold relRight; rw [← hor]; simp only [hA, hC, hD, hE, hF, hB0, Bool.or_false, Bool.not_false, Bool.true_and, cond_false]
                · simp only [g1, g2, g3, hA, hC, hD, hE, hF, z1, z2, z3, z4, z5, cond_true, Bool.and_true, Bool.and_self, and_true, true_and, eq_self, and_self]
              · skip
                have hh := rl_f0d pages stack types nc rs.length ns data a b c d e f g h rs
                try rw [f0] at hh
                try rw [f1] at hh
                try rw [f2] at hh
                try rw [f3] at hh
                try rw [f4] at hh
                try rw [f5] at hh
                try rw [lenT_eq] at hh
                refine reloc_any hh ?_ ?_
                · rw [hrr, hbh]; unfold relRight; rw [← hor]; simp only [hA, hC, hD, hE, hF, Bool.true_or, Bool.or_true, Bool.not_true, Bool.false_and]
                · simp only [g1, g2, g3, hA, hC, hD, hE, hF, cond_true, Bool.and_true, Bool.and_self, and_true, true_and, eq_self, and_self]
            · skip
              have hh := rl_e0d pages stack types nc rs.length ns data a b c d e f g h rs
              try rw [f0] at hh
              try rw [f1] at hh
              try rw [f2] at hh
              try rw [f3] at hh
              try rw [f4] at hh
              try rw [f5] at hh
              try rw [lenT_eq] at hh
              refine reloc_any hh ?_ ?_
              · rw [hrr, hbh]; unfold relRight; rw [← hor]; simp only [hA, hC, hD, hE, Bool.true_or, Bool.or_true, Bool.not_true, Bool.false_and]
              · simp only [g1, g2, g3, hA, hC, hD, hE, cond_true, Bool.and_true, Bool.and_self, and_true, true_and, eq_self, and_self]
          · skip
            have hh := rl_d0d pages stack types nc rs.length ns data a b c d e f g h rs
            try rw [f0] at hh
            try rw [f1] at hh
            try rw [f2] at hh
            try rw [f3] at hh
            try rw [f4] at hh
            try rw [f5] at hh
            try rw [lenT_eq] at hh
            refine reloc_any hh ?_ ?_
            · rw [hrr, hbh]; unfold relRight; rw [← hor]; simp only [hA, hC, hD, Bool.true_or, Bool.or_true, Bool.not_true, Bool.false_and]
            · simp only [g1, g2, g3, hA, hC, hD, cond_true, Bool.and_true, Bool.and_self, and_true, true_and, eq_self, and_self]
        · skip
          have hh := rl_c0 pages stack types nc rs.length ns data a b c d e f g h rs
          try rw [f0] at hh
          try rw [f1] at hh
          try rw [f2] at hh
          try rw [f3] at hh
          try rw [f4] at hh
          try rw [f5] at hh
          try rw [lenT_eq] at hh
          refine reloc_any hh ?_ ?_
          · rw [hrr, hbh]; unfold relRight; rw [← hor]; simp only [hA, hC, Bool.true_or, Bool.or_true, Bool.not_true, Bool.false_and]
          · simp only [g1, g2, g3, hA, hC, cond_true, Bool.and_true, Bool.and_self, and_true, true_and, eq_self, and_self]
    · skip
      have hh := rl_a0 pages stack types nc rs.length ns data a b c d e f g h rs
      try rw [f0] at hh
      try rw [f1] at hh
      try rw [f2] at hh
      try rw [f3] at hh
      try rw [f4] at hh
      try rw [f5] at hh
      try rw [lenT_eq] at hh
      refine reloc_any hh ?_ ?_
      · rw [hrr, hbh]; unfold relRight; rw [← hor]; simp only [hA, Bool.true_or, Bool.or_true, Bool.not_true, Bool.false_and]
      · simp only [g1, g2, g3, hA, cond_true, Bool.and_true, Bool.and_self, and_true, true_and, eq_self, and_self]
  · have hor := right_or types nc data.length true at_ off size perms typ (4 * nc) 133 0 hr hn hl rfl rfl
    cases hA : ((at_ : Int).tmod 16 != 0)
    · have ha0 : at_ % 16 = 0 := by
        rw [show (16 : Int) = ((16 : Nat) : Int) from rfl, ← Int.ofNat_tmod] at hA; simp only [bne_eq_false_iff_eq] at hA; omega
      have hB0 : decide ((at_ : Int) < ((0 : Nat) : Int)) = false := by simp
      · cases hC : decide (IntKind.u64.wrap (IntKind.u64.wrap (at_ : Int) + 16) > IntKind.u64.wrap (data.length : Int))
        · cases hD : decide (IntKind.u64.wrap (IntKind.u64.wrap (off : Int) + IntKind.u64.wrap (size : Int)) > IntKind.u64.wrap ((4 * nc : Nat) : Int))
          · cases hE : (bits BinOp.andNot IntKind.u16 (perms : Int) 133 != 0)
            · cases hF : decide (IntKind.i64.wrap (typ : Int) > types)
              · have ho : off + size ≤ 16384 := by
                  rw [IntKind.wrap_u64, IntKind.wrap_u64, IntKind.wrap_u64, IntKind.wrap_u64] at hD; have := hr.off; have := hr.size; simp only [decide_eq_false_iff_not] at *; omega
                have e1 : IntKind.u32.wrap ((a : Int) + (off : Int)) = ((a + off : Nat) : Int) := by rw [IntKind.wrap_u32]; omega
                have e2 : IntKind.u64.wrap (IntKind.u64.wrap ((a + off : Nat) : Int) + IntKind.u64.wrap (size : Int)) = ((a + off + size : Nat) : Int) := by rw [IntKind.wrap_u64, IntKind.wrap_u64, IntKind.wrap_u64]; omega
                have z1 : (0 : Int) ≤ ((a + off : Nat) : Int) := by omega
                have z2 : ((a + off : Nat) : Int) < 4294967296 := by omega
                have z3 : (0 : Int) ≤ ((a + off + size : Nat) : Int) := by omega
                have z4 : ((a + off + size : Nat) : Int) < 18446744073709551616 := by omega
                have z5 : rightN (a + off) (a + off + size) = true := by unfold rightN; simp; omega
                have hh := rl_g0c pages stack types nc rs.length ns data a b c d e f g h rs
                try rw [f0] at hh
                try rw [f1] at hh
                try rw [f2] at hh
                try rw [f3] at hh
                try rw [f4] at hh
                try rw [f5] at hh
                try rw [lenT_eq] at hh
                try rw [hb4] at hh
                rw [e1, e2, Int.toNat_natCast, Int.toNat_natCast] at hh
                refine reloc_any hh ?_ ?_
                · rw [hrr, hbh]; unfold relRight; rw [← hor]; simp only [hA, hC, hD, hE, hF, hB0, Bool.or_false, Bool.not_false, Bool.true_and, cond_true]
                · simp only [g1, g2, g3, hA, hC, hD, hE, hF, z1, z2, z3, z4, z5, cond_true, Bool.and_true, Bool.and_self, and_true, true_and, eq_self, and_self]
              · skip
                have hh := rl_f0c pages stack types nc rs.length ns data a b c d e f g h rs
                try rw [f0] at hh
                try rw [f1] at hh
                try rw [f2] at hh
                try rw [f3] at hh
                try rw [f4] at hh
                try rw [f5] at hh
                try rw [lenT_eq] at hh
                try rw [hb4] at hh
                refine reloc_any hh ?_ ?_
                · rw [hrr, hbh]; unfold relRight; rw [← hor]; simp only [hA, hC, hD, hE, hF, Bool.true_or, Bool.or_true, Bool.not_true, Bool.false_and]
                · simp only [g1, g2, g3, hA, hC, hD, hE, hF, cond_true, Bool.and_true, Bool.and_self, and_true, true_and, eq_self, and_self]
            · skip
              have hh := rl_e0c pages stack types nc rs.length ns data a b c d e f g h rs
              try rw [f0] at hh
              try rw [f1] at hh
              try rw [f2] at hh
              try rw [f3] at hh
              try rw [f4] at hh
              try rw [f5] at hh
              try rw [lenT_eq] at hh
              try rw [hb4] at hh
              refine reloc_any hh ?_ ?_
              · rw [hrr, hbh]; unfold relRight; rw [← hor]; simp only [hA, hC, hD, hE, Bool.true_or, Bool.or_true, Bool.not_true, Bool.false_and]
              · simp only [g1, g2, g3, hA, hC, hD, hE, cond_true, Bool.and_true, Bool.and_self, and_true, true_and, eq_self, and_self]
          · skip
            have hh := rl_d0c pages stack types nc rs.length ns data a b c d e f g h rs
            try rw [f0] at hh
            try rw [f1] at hh
            try rw [f2] at hh
            try rw [f3] at hh
            try rw [f4] at hh
            try rw [f5] at hh
            try rw [lenT_eq] at hh
            try rw [hb4] at hh
            refine reloc_any hh ?_ ?_
            · rw [hrr, hbh]; unfold relRight; rw [← hor]; simp only [hA, hC, hD, Bool.true_or, Bool.or_true, Bool.not_true, Bool.false_and]
            · simp only [g1, g2, g3, hA, hC, hD, cond_true, Bool.and_true, Bool.and_self, and_true, true_and, eq_self, and_self]
        · skip
          have hh := rl_c0 pages stack types nc rs.length ns data a b c d e f g h rs
          try rw [f0] at hh
          try rw [f1] at hh
          try rw [f2] at hh
          try rw [f3] at hh
          try rw [f4] at hh
          try rw [f5] at hh
          try rw [lenT_eq] at hh
          try rw [hb4] at hh
          refine reloc_any hh ?_ ?_
          · rw [hrr, hbh]; unfold relRight; rw [← hor]; simp only [hA, hC, Bool.true_or, Bool.or_true, Bool.not_true, Bool.false_and]
          · simp only [g1, g2, g3, hA, hC, cond_true, Bool.and_true, Bool.and_self, and_true, true_and, eq_self, and_self]
    · skip
      have hh := rl_a0 pages stack types nc rs.length ns data a b c d e f g h rs
      try rw [f0] at hh
      try rw [f1] at hh
      try rw [f2] at hh
      try rw [f3] at hh
      try rw [f4] at hh
      try rw [f5] at hh
      try rw [lenT_eq] at hh
      try rw [hb4] at hh
      refine reloc_any hh ?_ ?_
      · rw [hrr, hbh]; unfold relRight; rw [← hor]; simp only [hA, Bool.true_or, Bool.or_true, Bool.not_true, Bool.false_and]
      · simp only [g1, g2, g3, hA, cond_true, Bool.and_true, Bool.and_self, and_true, true_and, eq_self, and_self]
theorem reloc_1 (pages stack types : Int) (nc ns : Nat) (data : List UInt8) (a : Nat) (b : Int) (c : Nat) (d e f g h : Int) (rs : List Rl) (k : Nat) (hq : relocOk nc data.length a c rs (k + 1)) : ConOk Try.prog 30 3 (relocC pages stack types nc ns data a b c d e f g h rs (k + 1)) := by
  obtain ⟨⟨hr, hn, hl, ha, hc⟩, hk, hm, hp⟩ := hq
  rcases hrr : rl0 rs (k + 1) with ⟨at_, code, off, size, perms, typ⟩
  rw [hrr] at hr
  have f0 : intOf' (getD' undef (rels rs) (0 + (((k + 1 : Nat) : Int)).toNat * 6)) = (at_ : Int) := by
    rw [Int.toNat_natCast, Nat.zero_add]; have := rels_0 hk; rw [hrr] at this; exact this
  have f1 : boolOf' (getD' undef (rels rs) (0 + (((k + 1 : Nat) : Int)).toNat * 6 + 1)) = code := by
    rw [Int.toNat_natCast, Nat.zero_add]; have := rels_1 hk; rw [hrr] at this; exact this
  have f2 : intOf' (getD' undef (rels rs) (0 + (((k + 1 : Nat) : Int)).toNat * 6 + 1 + 1)) = (off : Int) := by
    rw [Int.toNat_natCast, Nat.zero_add]; have := rels_2 hk; rw [hrr] at this; exact this
  have f3 : intOf' (getD' undef (rels rs) (0 + (((k + 1 : Nat) : Int)).toNat * 6 + 1 + 1 + 1)) = (size : Int) := by
    rw [Int.toNat_natCast, Nat.zero_add]; have := rels_3 hk; rw [hrr] at this; exact this
  have f4 : intOf' (getD' undef (rels rs) (0 + (((k + 1 : Nat) : Int)).toNat * 6 + 1 + 1 + 1 + 1)) = (perms : Int) := by
    rw [Int.toNat_natCast, Nat.zero_add]; have := rels_4 hk; rw [hrr] at this; exact this
  have f5 : intOf' (getD' undef (rels rs) (0 + (((k + 1 : Nat) : Int)).toNat * 6 + 1 + 1 + 1 + 1 + 1)) = (typ : Int) := by
    rw [Int.toNat_natCast, Nat.zero_add]; have := rels_5 hk; rw [hrr] at this; exact this
  have hw : IntKind.i64.wrap (((k + 1 : Nat) : Int) - 1) = (k : Int) := by rw [wrap_i64 (by omega) (by omega)]; omega
  have hx : decide (((k + 1 : Nat) : Int) > 0) = true := by rw [decide_eq_true_eq]; omega
  have g1 : hasN (0 + (((k + 1 : Nat) : Int)).toNat * 6 + 6) (rels rs) = true := by rw [rels_has, Int.toNat_natCast]; simp; omega
  have g2 : isLikeL [Value.int IntKind.u32 (0 : Int), Value.bool false, Value.int IntKind.u32 (0 : Int), Value.int IntKind.u32 (0 : Int), Value.int IntKind.u16 (0 : Int), Value.int IntKind.u16 (0 : Int)] (rels rs) (0 + (((k + 1 : Nat) : Int)).toNat * 6) = true := by rw [Int.toNat_natCast, Nat.zero_add]; exact rels_like hk _ _ _ _ _ _
  have g3 : hasN (0 + (k : Int).toNat * 6 + 0 + 1) (rels rs) = true := by rw [rels_has, Int.toNat_natCast]; simp; omega
  have g4 : isLikeL [Value.int IntKind.u32 (0 : Int)] (rels rs) (0 + (k : Int).toNat * 6 + 0) = true := by rw [Int.toNat_natCast, Nat.zero_add, Nat.add_zero]; exact rels_like1 (by omega) _
  have g5 : decide ((0 : Int) ≤ ((k + 1 : Nat) : Int)) = true := by simp; omega
  have g6 : decide (((k + 1 : Nat) : Int) < (rs.length : Int)) = true := by simp; omega
  have g7 : decide ((0 : Int) ≤ (k : Int)) = true := by simp
  have g8 : decide ((k : Int) < (rs.length : Int)) = true := by simp; omega
  have fp : intOf' (getD' undef (rels rs) (0 + (k : Int).toNat * 6 + 0)) = ((rl0 rs k).at_ : Int) := by rw [Int.toNat_natCast, Nat.zero_add, Nat.add_zero]; exact rels_0 (by omega)
  have hb4 : IntKind.u64.wrap ((4 : Int) * IntKind.u64.wrap (nc : Int)) = IntKind.u64.wrap ((4 * nc : Nat) : Int) := by rw [IntKind.wrap_u64, IntKind.wrap_u64, IntKind.wrap_u64]; omega
  have hbh : behindN rs (k + 1) = (rl0 rs k).at_ + 16 := rfl
  cases code
  · have hor := right_or types nc data.length false at_ off size perms typ data.length 155 ((rl0 rs k).at_ + 16) hr hn hl rfl rfl
    cases hA : ((at_ : Int).tmod 16 != 0)
    · have ha0 : at_ % 16 = 0 := by
        rw [show (16 : Int) = ((16 : Nat) : Int) from rfl, ← Int.ofNat_tmod] at hA; simp only [bne_eq_false_iff_eq] at hA; omega
      have hBB : decide ((at_ : Int) < (((rl0 rs k).at_ + 16 : Nat) : Int)) = decide (((rl0 rs k).at_ : Int) ≥ (at_ : Int)) := by
        have := hp.1; rw [Bool.eq_iff_iff]; simp only [decide_eq_true_eq]; omega
      cases hB : decide (((rl0 rs k).at_ : Int) ≥ (at_ : Int))
      · cases hC : decide (IntKind.u64.wrap (IntKind.u64.wrap (at_ : Int) + 16) > IntKind.u64.wrap (data.length : Int))
        · cases hD : decide (IntKind.u64.wrap (IntKind.u64.wrap (off : Int) + IntKind.u64.wrap (size : Int)) > IntKind.u64.wrap (data.length : Int))
          · cases hE : (bits BinOp.andNot IntKind.u16 (perms : Int) 155 != 0)
            · cases hF : decide (IntKind.i64.wrap (typ : Int) > types)
              · have ho : off + size ≤ 16384 := by
                  rw [IntKind.wrap_u64, IntKind.wrap_u64, IntKind.wrap_u64, IntKind.wrap_u64] at hD; have := hr.off; have := hr.size; simp only [decide_eq_false_iff_not] at *; omega
                have e1 : IntKind.u32.wrap ((c : Int) + (off : Int)) = ((c + off : Nat) : Int) := by rw [IntKind.wrap_u32]; omega
                have e2 : IntKind.u64.wrap (IntKind.u64.wrap ((c + off : Nat) : Int) + IntKind.u64.wrap (size : Int)) = ((c + off + size : Nat) : Int) := by rw [IntKind.wrap_u64, IntKind.wrap_u64, IntKind.wrap_u64]; omega
                have z1 : (0 : Int) ≤ ((c + off : Nat) : Int) := by omega
                have z2 : ((c + off : Nat) : Int) < 4294967296 := by omega
                have z3 : (0 : Int) ≤ ((c + off + size : Nat) : Int) := by omega
                have z4 : ((c + off + size : Nat) : Int) < 18446744073709551616 := by omega
                have z5 : rightN (c + off) (c + off + size) = true := by unfold rightN; simp; omega
                have hh := rl_g1d pages stack types nc rs.length ns data a b c d e f g h rs ((k + 1 : Nat) : Int)
                try rw [hw] at hh
                try rw [fp] at hh
                try rw [f0] at hh
                try rw [f1] at hh
                try rw [f2] at hh
                try rw [f3] at hh
                try rw [f4] at hh
                try rw [f5] at hh
                try rw [lenT_eq] at hh
                rw [e1, e2, Int.toNat_natCast, Int.toNat_natCast] at hh
                refine reloc_any hh ?_ ?_
                · rw [hrr, hbh]; unfold relRight; rw [← hor]; simp only [hA, hB, hC, hD, hE, hF, hBB, Bool.or_false, Bool.not_false, Bool.true_and, cond_false]
                · simp only [hx, g1, g2, g3, g4, g5, g6, g7, g8, hA, hB, hC, hD, hE, hF, z1, z2, z3, z4, z5, cond_true, Bool.and_true, Bool.and_self, and_true, true_and, eq_self, and_self]
              · skip
                have hh := rl_f1d pages stack types nc rs.length ns data a b c d e f g h rs ((k + 1 : Nat) : Int)
                try rw [hw] at hh
                try rw [fp] at hh
                try rw [f0] at hh
                try rw [f1] at hh
                try rw [f2] at hh
                try rw [f3] at hh
                try rw [f4] at hh
                try rw [f5] at hh
                try rw [lenT_eq] at hh
                refine reloc_any hh ?_ ?_
                · rw [hrr, hbh]; unfold relRight; rw [← hor]; simp only [hA, hB, hC, hD, hE, hF, hBB, Bool.true_or, Bool.or_true, Bool.not_true, Bool.false_and]
                · simp only [hx, g1, g2, g3, g4, g5, g6, g7, g8, hA, hB, hC, hD, hE, hF, cond_true, Bool.and_true, Bool.and_self, and_true, true_and, eq_self, and_self]
            · skip
              have hh := rl_e1d pages stack types nc rs.length ns data a b c d e f g h rs ((k + 1 : Nat) : Int)
              try rw [hw] at hh
              try rw [fp] at hh
              try rw [f0] at hh
              try rw [f1] at hh
              try rw [f2] at hh
              try rw [f3] at hh
              try rw [f4] at hh
              try rw [f5] at hh
              try rw [lenT_eq] at hh
              refine reloc_any hh ?_ ?_
              · rw [hrr, hbh]; unfold relRight; rw [← hor]; simp only [hA, hB, hC, hD, hE, hBB, Bool.true_or, Bool.or_true, Bool.not_true, Bool.false_and]
              · simp only [hx, g1, g2, g3, g4, g5, g6, g7, g8, hA, hB, hC, hD, hE, cond_true, Bool.and_true, Bool.and_self, and_true, true_and, eq_self, and_self]
          · skip
            have hh := rl_d1d pages stack types nc rs.length ns data a b c d e f g h rs ((k + 1 : Nat) : Int)
            try rw [hw] at hh
            try rw [fp] at hh
            try rw [f0] at hh
            try rw [f1] at hh
            try rw [f2] at hh
            try rw [f3] at hh
            try rw [f4] at hh
            try rw [f5] at hh
            try rw [lenT_eq] at hh
            refine reloc_any hh ?_ ?_
            · rw [hrr, hbh]; unfold relRight; rw [← hor]; simp only [hA, hB, hC, hD, hBB, Bool.true_or, Bool.or_true, Bool.not_true, Bool.false_and]
            · simp only [hx, g1, g2, g3, g4, g5, g6, g7, g8, hA, hB, hC, hD, cond_true, Bool.and_true, Bool.and_self, and_true, true_and, eq_self, and_self]
        · skip
          have hh := rl_c1 pages stack types nc rs.length ns data a b c d e f g h rs ((k + 1 : Nat) : Int)
          try rw [hw] at hh
          try rw [fp] at hh
          try rw [f0] at hh
          try rw [f1] at hh
          try rw [f2] at hh
          try rw [f3] at hh
          try rw [f4] at hh
          try rw [f5] at hh
          try rw [lenT_eq] at hh
          refine reloc_any hh ?_ ?_
          · rw [hrr, hbh]; unfold relRight; rw [← hor]; simp only [hA, hB, hC, hBB, Bool.true_or, Bool.or_true, Bool.not_true, Bool.false_and]
          · simp only [hx, g1, g2, g3, g4, g5, g6, g7, g8, hA, hB, hC, cond_true, Bool.and_true, Bool.and_self, and_true, true_and, eq_self, and_self]
      · skip
        have hh := rl_b1 pages stack types nc rs.length ns data a b c d e f g h rs ((k + 1 : Nat) : Int)
        try rw [hw] at hh
        try rw [fp] at hh
        try rw [f0] at hh
        try rw [f1] at hh
        try rw [f2] at hh
        try rw [f3] at hh
        try rw [f4] at hh
        try rw [f5] at hh
        try rw [lenT_eq] at hh
        refine reloc_any hh ?_ ?_
        · rw [hrr, hbh]; unfold relRight; rw [← hor]; simp only [hA, hB, hBB, Bool.true_or, Bool.or_true, Bool.not_true, Bool.false_and]
        · simp only [hx, g1, g2, g3, g4, g5, g6, g7, g8, hA, hB, cond_true, Bool.and_true, Bool.and_self, and_true, true_and, eq_self, and_self]
    · skip
      have hh := rl_a1 pages stack types nc rs.length ns data a b c d e f g h rs ((k + 1 : Nat) : Int)
      try rw [hw] at hh
      try rw [fp] at hh
      try rw [f0] at hh
      try rw [f1] at hh
      try rw [f2] at hh
      try rw [f3] at hh
      try rw [f4] at hh
      try rw [f5] at hh
      try rw [lenT_eq] at hh
      refine reloc_any hh ?_ ?_
      · rw [hrr, hbh]; unfold relRight; rw [← hor]; simp only [hA, Bool.true_or, Bool.or_true, Bool.not_true, Bool.false_and]
      · simp only [hx, g1, g2, g3, g4, g5, g6, g7, g8, hA, cond_true, Bool.and_true, Bool.and_self, and_true, true_and, eq_self, and_self]
  · have hor := right_or types nc data.length true at_ off size perms typ (4 * nc) 133 ((rl0 rs k).at_ + 16) hr hn hl rfl rfl
    cases hA : ((at_ : Int).tmod 16 != 0)
    · have ha0 : at_ % 16 = 0 := by
        rw [show (16 : Int) = ((16 : Nat) : Int) from rfl, ← Int.ofNat_tmod] at hA; simp only [bne_eq_false_iff_eq] at hA; omega
      have hBB : decide ((at_ : Int) < (((rl0 rs k).at_ + 16 : Nat) : Int)) = decide (((rl0 rs k).at_ : Int) ≥ (at_ : Int)) := by
        have := hp.1; rw [Bool.eq_iff_iff]; simp only [decide_eq_true_eq]; omega
      cases hB : decide (((rl0 rs k).at_ : Int) ≥ (at_ : Int))
      · cases hC : decide (IntKind.u64.wrap (IntKind.u64.wrap (at_ : Int) + 16) > IntKind.u64.wrap (data.length : Int))
        · cases hD : decide (IntKind.u64.wrap (IntKind.u64.wrap (off : Int) + IntKind.u64.wrap (size : Int)) > IntKind.u64.wrap ((4 * nc : Nat) : Int))
          · cases hE : (bits BinOp.andNot IntKind.u16 (perms : Int) 133 != 0)
            · cases hF : decide (IntKind.i64.wrap (typ : Int) > types)
              · have ho : off + size ≤ 16384 := by
                  rw [IntKind.wrap_u64, IntKind.wrap_u64, IntKind.wrap_u64, IntKind.wrap_u64] at hD; have := hr.off; have := hr.size; simp only [decide_eq_false_iff_not] at *; omega
                have e1 : IntKind.u32.wrap ((a : Int) + (off : Int)) = ((a + off : Nat) : Int) := by rw [IntKind.wrap_u32]; omega
                have e2 : IntKind.u64.wrap (IntKind.u64.wrap ((a + off : Nat) : Int) + IntKind.u64.wrap (size : Int)) = ((a + off + size : Nat) : Int) := by rw [IntKind.wrap_u64, IntKind.wrap_u64, IntKind.wrap_u64]; omega
                have z1 : (0 : Int) ≤ ((a + off : Nat) : Int) := by omega
                have z2 : ((a + off : Nat) : Int) < 4294967296 := by omega
                have z3 : (0 : Int) ≤ ((a + off + size : Nat) : Int) := by omega
                have z4 : ((a + off + size : Nat) : Int) < 18446744073709551616 := by omega
                have z5 : rightN (a + off) (a + off + size) = true := by unfold rightN; simp; omega
                have hh := rl_g1c pages stack types nc rs.length ns data a b c d e f g h rs ((k + 1 : Nat) : Int)
                try rw [hw] at hh
                try rw [fp] at hh
                try rw [f0] at hh
                try rw [f1] at hh
                try rw [f2] at hh
                try rw [f3] at hh
                try rw [f4] at hh
                try rw [f5] at hh
                try rw [lenT_eq] at hh
                try rw [hb4] at hh
                rw [e1, e2, Int.toNat_natCast, Int.toNat_natCast] at hh
                refine reloc_any hh ?_ ?_
                · rw [hrr, hbh]; unfold relRight; rw [← hor]; simp only [hA, hB, hC, hD, hE, hF, hBB, Bool.or_false, Bool.not_false, Bool.true_and, cond_true]
                · simp only [hx, g1, g2, g3, g4, g5, g6, g7, g8, hA, hB, hC, hD, hE, hF, z1, z2, z3, z4, z5, cond_true, Bool.and_true, Bool.and_self, and_true, true_and, eq_self, and_self]
              · skip
                have hh := rl_f1c pages stack types nc rs.length ns data a b c d e f g h rs ((k + 1 : Nat) : Int)
                try rw [hw] at hh
                try rw [fp] at hh
                try rw [f0] at hh
                try rw [f1] at hh
                try rw [f2] at hh
                try rw [f3] at hh
                try rw [f4] at hh
                try rw [f5] at hh
                try rw [lenT_eq] at hh
                try rw [hb4] at hh
                refine reloc_any hh ?_ ?_
                · rw [hrr, hbh]; unfold relRight; rw [← hor]; simp only [hA, hB, hC, hD, hE, hF, hBB, Bool.true_or, Bool.or_true, Bool.not_true, Bool.false_and]
                · simp only [hx, g1, g2, g3, g4, g5, g6, g7, g8, hA, hB, hC, hD, hE, hF, cond_true, Bool.and_true, Bool.and_self, and_true, true_and, eq_self, and_self]
            · skip
              have hh := rl_e1c pages stack types nc rs.length ns data a b c d e f g h rs ((k + 1 : Nat) : Int)
              try rw [hw] at hh
              try rw [fp] at hh
              try rw [f0] at hh
              try rw [f1] at hh
              try rw [f2] at hh
              try rw [f3] at hh
              try rw [f4] at hh
              try rw [f5] at hh
              try rw [lenT_eq] at hh
              try rw [hb4] at hh
              refine reloc_any hh ?_ ?_
              · rw [hrr, hbh]; unfold relRight; rw [← hor]; simp only [hA, hB, hC, hD, hE, hBB, Bool.true_or, Bool.or_true, Bool.not_true, Bool.false_and]
              · simp only [hx, g1, g2, g3, g4, g5, g6, g7, g8, hA, hB, hC, hD, hE, cond_true, Bool.and_true, Bool.and_self, and_true, true_and, eq_self, and_self]
          · skip
            have hh := rl_d1c pages stack types nc rs.length ns data a b c d e f g h rs ((k + 1 : Nat) : Int)
            try rw [hw] at hh
            try rw [fp] at hh
            try rw [f0] at hh
            try rw [f1] at hh
            try rw [f2] at hh
            try rw [f3] at hh
            try rw [f4] at hh
            try rw [f5] at hh
            try rw [lenT_eq] at hh
            try rw [hb4] at hh
            refine reloc_any hh ?_ ?_
            · rw [hrr, hbh]; unfold relRight; rw [← hor]; simp only [hA, hB, hC, hD, hBB, Bool.true_or, Bool.or_true, Bool.not_true, Bool.false_and]
            · simp only [hx, g1, g2, g3, g4, g5, g6, g7, g8, hA, hB, hC, hD, cond_true, Bool.and_true, Bool.and_self, and_true, true_and, eq_self, and_self]
        · skip
          have hh := rl_c1 pages stack types nc rs.length ns data a b c d e f g h rs ((k + 1 : Nat) : Int)
          try rw [hw] at hh
          try rw [fp] at hh
          try rw [f0] at hh
          try rw [f1] at hh
          try rw [f2] at hh
          try rw [f3] at hh
          try rw [f4] at hh
          try rw [f5] at hh
          try rw [lenT_eq] at hh
          try rw [hb4] at hh
          refine reloc_any hh ?_ ?_
          · rw [hrr, hbh]; unfold relRight; rw [← hor]; simp only [hA, hB, hC, hBB, Bool.true_or, Bool.or_true, Bool.not_true, Bool.false_and]
          · simp only [hx, g1, g2, g3, g4, g5, g6, g7, g8, hA, hB, hC, cond_true, Bool.and_true, Bool.and_self, and_true, true_and, eq_self, and_self]
      · skip
        have hh := rl_b1 pages stack types nc rs.length ns data a b c d e f g h rs ((k + 1 : Nat) : Int)
        try rw [hw] at hh
        try rw [fp] at hh
        try rw [f0] at hh
        try rw [f1] at hh
        try rw [f2] at hh
        try rw [f3] at hh
        try rw [f4] at hh
        try rw [f5] at hh
        try rw [lenT_eq] at hh
        try rw [hb4] at hh
        refine reloc_any hh ?_ ?_
        · rw [hrr, hbh]; unfold relRight; rw [← hor]; simp only [hA, hB, hBB, Bool.true_or, Bool.or_true, Bool.not_true, Bool.false_and]
        · simp only [hx, g1, g2, g3, g4, g5, g6, g7, g8, hA, hB, cond_true, Bool.and_true, Bool.and_self, and_true, true_and, eq_self, and_self]
    · skip
      have hh := rl_a1 pages stack types nc rs.length ns data a b c d e f g h rs ((k + 1 : Nat) : Int)
      try rw [hw] at hh
      try rw [fp] at hh
      try rw [f0] at hh
      try rw [f1] at hh
      try rw [f2] at hh
      try rw [f3] at hh
      try rw [f4] at hh
      try rw [f5] at hh
      try rw [lenT_eq] at hh
      try rw [hb4] at hh
      refine reloc_any hh ?_ ?_
      · rw [hrr, hbh]; unfold relRight; rw [← hor]; simp only [hA, Bool.true_or, Bool.or_true, Bool.not_true, Bool.false_and]
      · simp only [hx, g1, g2, g3, g4, g5, g6, g7, g8, hA, cond_true, Bool.and_true, Bool.and_self, and_true, true_and, eq_self, and_self]
end Go.Proofs.Ytdljpnebpoaeiaa
