/-
  Chapter 04's Sound, the program's and the document's, and works, by the machine's paths.
-/
import Derived.Test.YtnnagaioiodniaaEngSay
import Derived.Test.YtnnagaioiodniaaRows
namespace Go.Proofs.Ytnnagaioiodniaa
open Go.RowKit

theorem sym_names : Eng.namesOk Try.prog = true := by kernel_rfl
theorem works_path : Eng.Path Try.prog Eng.noAns 1000 20 18 [] [] = some (.bool true, True) := by kernel_rfl
theorem works_pure : Eng.Pure Try.prog 18 [] (.bool true) :=
  Eng.path_pure sym_names (Eng.noAns_ok _) works_path trivial (fun u hu => by cases hu) rfl
theorem snd23_0 (c : Int) (e : Int) (b : Int) (t : Int) (p : Int) (y : Int) (r : Int) (v : Bool) : Eng.Path Try.prog Eng.noAns 1000 20 23 [Value.agg { toList := [Value.int IntKind.u32 c, Value.int IntKind.u8 e, Value.int IntKind.u16 b, Value.int IntKind.u16 t, Value.int IntKind.u16 p, Value.int IntKind.u16 y, Value.int IntKind.u32 r, Value.bool v] }] [(1, true)] = some (Value.bool false, True ∧ decide (IntKind.u32.wrap e ≥ 22) = true) := by kernel_rfl
theorem snd23_1 (c : Int) (e : Int) (b : Int) (t : Int) (p : Int) (y : Int) (r : Int) (v : Bool) : Eng.Path Try.prog Eng.noAns 1000 20 23 [Value.agg { toList := [Value.int IntKind.u32 c, Value.int IntKind.u8 e, Value.int IntKind.u16 b, Value.int IntKind.u16 t, Value.int IntKind.u16 p, Value.int IntKind.u16 y, Value.int IntKind.u32 r, Value.bool v] }] [(1, false), (3, true)] = some (Value.bool false, (True ∧ decide (IntKind.u32.wrap e ≥ 22) = false) ∧ decide (IntKind.u32.wrap b ≥ 4096) = true) := by kernel_rfl
theorem snd23_2 (c : Int) (e : Int) (b : Int) (t : Int) (p : Int) (y : Int) (r : Int) (v : Bool) : Eng.Path Try.prog Eng.noAns 1000 20 23 [Value.agg { toList := [Value.int IntKind.u32 c, Value.int IntKind.u8 e, Value.int IntKind.u16 b, Value.int IntKind.u16 t, Value.int IntKind.u16 p, Value.int IntKind.u16 y, Value.int IntKind.u32 r, Value.bool v] }] [(1, false), (3, false), (5, true)] = some (Value.bool false, ((True ∧ decide (IntKind.u32.wrap e ≥ 22) = false) ∧ decide (IntKind.u32.wrap b ≥ 4096) = false) ∧ decide (IntKind.u32.wrap t ≥ 4096) = true) := by kernel_rfl
theorem snd23_3 (c : Int) (e : Int) (b : Int) (t : Int) (p : Int) (y : Int) (r : Int) (v : Bool) : Eng.Path Try.prog Eng.noAns 1000 20 23 [Value.agg { toList := [Value.int IntKind.u32 c, Value.int IntKind.u8 e, Value.int IntKind.u16 b, Value.int IntKind.u16 t, Value.int IntKind.u16 p, Value.int IntKind.u16 y, Value.int IntKind.u32 r, Value.bool v] }] [(1, false), (3, false), (5, false), (7, true)] = some (Value.bool false, (((True ∧ decide (IntKind.u32.wrap e ≥ 22) = false) ∧ decide (IntKind.u32.wrap b ≥ 4096) = false) ∧ decide (IntKind.u32.wrap t ≥ 4096) = false) ∧ decide (IntKind.u32.wrap p ≥ 256) = true) := by kernel_rfl
theorem snd23_4 (c : Int) (e : Int) (b : Int) (t : Int) (p : Int) (y : Int) (r : Int) (v : Bool) : Eng.Path Try.prog Eng.noAns 1000 20 23 [Value.agg { toList := [Value.int IntKind.u32 c, Value.int IntKind.u8 e, Value.int IntKind.u16 b, Value.int IntKind.u16 t, Value.int IntKind.u16 p, Value.int IntKind.u16 y, Value.int IntKind.u32 r, Value.bool v] }] [(1, false), (3, false), (5, false), (7, false), (9, true)] = some (Value.bool false, ((((True ∧ decide (IntKind.u32.wrap e ≥ 22) = false) ∧ decide (IntKind.u32.wrap b ≥ 4096) = false) ∧ decide (IntKind.u32.wrap t ≥ 4096) = false) ∧ decide (IntKind.u32.wrap p ≥ 256) = false) ∧ decide (IntKind.u32.wrap y ≥ 4096) = true) := by kernel_rfl
theorem snd23_5 (c : Int) (e : Int) (b : Int) (t : Int) (p : Int) (y : Int) (r : Int) (v : Bool) : Eng.Path Try.prog Eng.noAns 1000 20 23 [Value.agg { toList := [Value.int IntKind.u32 c, Value.int IntKind.u8 e, Value.int IntKind.u16 b, Value.int IntKind.u16 t, Value.int IntKind.u16 p, Value.int IntKind.u16 y, Value.int IntKind.u32 r, Value.bool v] }] [(1, false), (3, false), (5, false), (7, false), (9, false), (11, true)] = some (Value.bool false, (((((True ∧ decide (IntKind.u32.wrap e ≥ 22) = false) ∧ decide (IntKind.u32.wrap b ≥ 4096) = false) ∧ decide (IntKind.u32.wrap t ≥ 4096) = false) ∧ decide (IntKind.u32.wrap p ≥ 256) = false) ∧ decide (IntKind.u32.wrap y ≥ 4096) = false) ∧ decide (r ≥ 16777216) = true) := by kernel_rfl
theorem snd23_6 (c : Int) (e : Int) (b : Int) (t : Int) (p : Int) (y : Int) (r : Int) (v : Bool) : Eng.Path Try.prog Eng.noAns 1000 20 23 [Value.agg { toList := [Value.int IntKind.u32 c, Value.int IntKind.u8 e, Value.int IntKind.u16 b, Value.int IntKind.u16 t, Value.int IntKind.u16 p, Value.int IntKind.u16 y, Value.int IntKind.u32 r, Value.bool v] }] [(1, false), (3, false), (5, false), (7, false), (9, false), (11, false)] = some (Value.bool true, (((((True ∧ decide (IntKind.u32.wrap e ≥ 22) = false) ∧ decide (IntKind.u32.wrap b ≥ 4096) = false) ∧ decide (IntKind.u32.wrap t ≥ 4096) = false) ∧ decide (IntKind.u32.wrap p ≥ 256) = false) ∧ decide (IntKind.u32.wrap y ≥ 4096) = false) ∧ decide (r ≥ 16777216) = false) := by kernel_rfl
theorem snd28_0 (c : Int) (e : Int) (b : Int) (t : Int) (p : Int) (y : Int) (r : Int) (v : Bool) : Eng.Path Try.prog Eng.noAns 1000 20 28 [Value.agg { toList := [Value.int IntKind.u32 c, Value.int IntKind.u8 e, Value.int IntKind.u16 b, Value.int IntKind.u16 t, Value.int IntKind.u16 p, Value.int IntKind.u16 y, Value.int IntKind.u32 r, Value.bool v] }] [(0, false), (1, false), (2, false), (3, false)] = some (Value.bool false, (((True ∧ decide (e ≤ 21) = false) ∧ decide (e ≤ 21) = false) ∧ decide (e ≤ 21) = false) ∧ decide (e ≤ 21) = false) := by kernel_rfl
theorem snd28_1 (c : Int) (e : Int) (b : Int) (t : Int) (p : Int) (y : Int) (r : Int) (v : Bool) : Eng.Path Try.prog Eng.noAns 1000 20 28 [Value.agg { toList := [Value.int IntKind.u32 c, Value.int IntKind.u8 e, Value.int IntKind.u16 b, Value.int IntKind.u16 t, Value.int IntKind.u16 p, Value.int IntKind.u16 y, Value.int IntKind.u32 r, Value.bool v] }] [(0, true), (1, true), (2, true), (3, true), (4, false), (5, false), (6, false), (7, false)] = some (Value.bool false, (((((((True ∧ decide (e ≤ 21) = true) ∧ decide (e ≤ 21) = true) ∧ decide (e ≤ 21) = true) ∧ decide (e ≤ 21) = true) ∧ decide (b < 4096) = false) ∧ decide (b < 4096) = false) ∧ decide (b < 4096) = false) ∧ decide (b < 4096) = false) := by kernel_rfl
theorem snd28_2 (c : Int) (e : Int) (b : Int) (t : Int) (p : Int) (y : Int) (r : Int) (v : Bool) : Eng.Path Try.prog Eng.noAns 1000 20 28 [Value.agg { toList := [Value.int IntKind.u32 c, Value.int IntKind.u8 e, Value.int IntKind.u16 b, Value.int IntKind.u16 t, Value.int IntKind.u16 p, Value.int IntKind.u16 y, Value.int IntKind.u32 r, Value.bool v] }] [(0, true), (1, true), (2, true), (3, true), (4, true), (5, true), (6, true), (7, true), (8, false), (9, false), (10, false), (11, false)] = some (Value.bool false, (((((((((((True ∧ decide (e ≤ 21) = true) ∧ decide (e ≤ 21) = true) ∧ decide (e ≤ 21) = true) ∧ decide (e ≤ 21) = true) ∧ decide (b < 4096) = true) ∧ decide (b < 4096) = true) ∧ decide (b < 4096) = true) ∧ decide (b < 4096) = true) ∧ decide (t < 4096) = false) ∧ decide (t < 4096) = false) ∧ decide (t < 4096) = false) ∧ decide (t < 4096) = false) := by kernel_rfl
theorem snd28_3 (c : Int) (e : Int) (b : Int) (t : Int) (p : Int) (y : Int) (r : Int) (v : Bool) : Eng.Path Try.prog Eng.noAns 1000 20 28 [Value.agg { toList := [Value.int IntKind.u32 c, Value.int IntKind.u8 e, Value.int IntKind.u16 b, Value.int IntKind.u16 t, Value.int IntKind.u16 p, Value.int IntKind.u16 y, Value.int IntKind.u32 r, Value.bool v] }] [(0, true), (1, true), (2, true), (3, true), (4, true), (5, true), (6, true), (7, true), (8, true), (9, true), (10, true), (11, true), (12, false), (13, false), (14, false), (15, false)] = some (Value.bool false, (((((((((((((((True ∧ decide (e ≤ 21) = true) ∧ decide (e ≤ 21) = true) ∧ decide (e ≤ 21) = true) ∧ decide (e ≤ 21) = true) ∧ decide (b < 4096) = true) ∧ decide (b < 4096) = true) ∧ decide (b < 4096) = true) ∧ decide (b < 4096) = true) ∧ decide (t < 4096) = true) ∧ decide (t < 4096) = true) ∧ decide (t < 4096) = true) ∧ decide (t < 4096) = true) ∧ decide (p ≤ 255) = false) ∧ decide (p ≤ 255) = false) ∧ decide (p ≤ 255) = false) ∧ decide (p ≤ 255) = false) := by kernel_rfl
theorem snd28_4 (c : Int) (e : Int) (b : Int) (t : Int) (p : Int) (y : Int) (r : Int) (v : Bool) : Eng.Path Try.prog Eng.noAns 1000 20 28 [Value.agg { toList := [Value.int IntKind.u32 c, Value.int IntKind.u8 e, Value.int IntKind.u16 b, Value.int IntKind.u16 t, Value.int IntKind.u16 p, Value.int IntKind.u16 y, Value.int IntKind.u32 r, Value.bool v] }] [(0, true), (1, true), (2, true), (3, true), (4, true), (5, true), (6, true), (7, true), (8, true), (9, true), (10, true), (11, true), (12, true), (13, true), (14, true), (15, true), (16, false), (17, false), (18, false), (19, false)] = some (Value.bool false, (((((((((((((((((((True ∧ decide (e ≤ 21) = true) ∧ decide (e ≤ 21) = true) ∧ decide (e ≤ 21) = true) ∧ decide (e ≤ 21) = true) ∧ decide (b < 4096) = true) ∧ decide (b < 4096) = true) ∧ decide (b < 4096) = true) ∧ decide (b < 4096) = true) ∧ decide (t < 4096) = true) ∧ decide (t < 4096) = true) ∧ decide (t < 4096) = true) ∧ decide (t < 4096) = true) ∧ decide (p ≤ 255) = true) ∧ decide (p ≤ 255) = true) ∧ decide (p ≤ 255) = true) ∧ decide (p ≤ 255) = true) ∧ decide (y < 4096) = false) ∧ decide (y < 4096) = false) ∧ decide (y < 4096) = false) ∧ decide (y < 4096) = false) := by kernel_rfl
theorem snd28_5 (c : Int) (e : Int) (b : Int) (t : Int) (p : Int) (y : Int) (r : Int) (v : Bool) : Eng.Path Try.prog Eng.noAns 1000 20 28 [Value.agg { toList := [Value.int IntKind.u32 c, Value.int IntKind.u8 e, Value.int IntKind.u16 b, Value.int IntKind.u16 t, Value.int IntKind.u16 p, Value.int IntKind.u16 y, Value.int IntKind.u32 r, Value.bool v] }] [(0, true), (1, true), (2, true), (3, true), (4, true), (5, true), (6, true), (7, true), (8, true), (9, true), (10, true), (11, true), (12, true), (13, true), (14, true), (15, true), (16, true), (17, true), (18, true), (19, true)] = some (Value.bool (decide (r < 16777216)), (((((((((((((((((((True ∧ decide (e ≤ 21) = true) ∧ decide (e ≤ 21) = true) ∧ decide (e ≤ 21) = true) ∧ decide (e ≤ 21) = true) ∧ decide (b < 4096) = true) ∧ decide (b < 4096) = true) ∧ decide (b < 4096) = true) ∧ decide (b < 4096) = true) ∧ decide (t < 4096) = true) ∧ decide (t < 4096) = true) ∧ decide (t < 4096) = true) ∧ decide (t < 4096) = true) ∧ decide (p ≤ 255) = true) ∧ decide (p ≤ 255) = true) ∧ decide (p ≤ 255) = true) ∧ decide (p ≤ 255) = true) ∧ decide (y < 4096) = true) ∧ decide (y < 4096) = true) ∧ decide (y < 4096) = true) ∧ decide (y < 4096) = true) := by kernel_rfl

def sndP (e b t p y r : Int) : Bool := !decide (IntKind.u32.wrap e ≥ 22) && !decide (IntKind.u32.wrap b ≥ 4096) && !decide (IntKind.u32.wrap t ≥ 4096) && !decide (IntKind.u32.wrap p ≥ 256) && !decide (IntKind.u32.wrap y ≥ 4096) && !decide (r ≥ 16777216)
def sndR (e b t p y r : Int) : Bool := decide (e ≤ 21) && decide (b < 4096) && decide (t < 4096) && decide (p ≤ 255) && decide (y < 4096) && decide (r < 16777216)
theorem one_flat {u v : Value} (h : Eng.flat2 v = true) (hu : u ∈ [v]) : Eng.flat2 u = true := by
  obtain rfl := List.mem_singleton.1 hu
  exact h
theorem snd23 (c e b t p y r : Int) (v : Bool) : Eng.Pure Try.prog 23 [.agg ⟨[Value.int IntKind.u32 c, Value.int IntKind.u8 e, Value.int IntKind.u16 b, Value.int IntKind.u16 t, Value.int IntKind.u16 p, Value.int IntKind.u16 y, Value.int IntKind.u32 r, Value.bool v]⟩] (.bool (sndP e b t p y r)) := by
  cases h0 : decide (IntKind.u32.wrap e ≥ 22)
  case true =>
    have hv : sndP e b t p y r = false := by unfold sndP; rw [h0]; rfl
    rw [hv]
    exact Eng.path_pure sym_names (Eng.noAns_ok _) (snd23_0 c e b t p y r v) ⟨trivial, h0⟩ (fun u hu => one_flat rfl hu) rfl
  cases h1 : decide (IntKind.u32.wrap b ≥ 4096)
  case true =>
    have hv : sndP e b t p y r = false := by unfold sndP; rw [h0, h1]; rfl
    rw [hv]
    exact Eng.path_pure sym_names (Eng.noAns_ok _) (snd23_1 c e b t p y r v) ⟨⟨trivial, h0⟩, h1⟩ (fun u hu => one_flat rfl hu) rfl
  cases h2 : decide (IntKind.u32.wrap t ≥ 4096)
  case true =>
    have hv : sndP e b t p y r = false := by unfold sndP; rw [h0, h1, h2]; rfl
    rw [hv]
    exact Eng.path_pure sym_names (Eng.noAns_ok _) (snd23_2 c e b t p y r v) ⟨⟨⟨trivial, h0⟩, h1⟩, h2⟩ (fun u hu => one_flat rfl hu) rfl
  cases h3 : decide (IntKind.u32.wrap p ≥ 256)
  case true =>
    have hv : sndP e b t p y r = false := by unfold sndP; rw [h0, h1, h2, h3]; rfl
    rw [hv]
    exact Eng.path_pure sym_names (Eng.noAns_ok _) (snd23_3 c e b t p y r v) ⟨⟨⟨⟨trivial, h0⟩, h1⟩, h2⟩, h3⟩ (fun u hu => one_flat rfl hu) rfl
  cases h4 : decide (IntKind.u32.wrap y ≥ 4096)
  case true =>
    have hv : sndP e b t p y r = false := by unfold sndP; rw [h0, h1, h2, h3, h4]; rfl
    rw [hv]
    exact Eng.path_pure sym_names (Eng.noAns_ok _) (snd23_4 c e b t p y r v) ⟨⟨⟨⟨⟨trivial, h0⟩, h1⟩, h2⟩, h3⟩, h4⟩ (fun u hu => one_flat rfl hu) rfl
  cases h5 : decide (r ≥ 16777216)
  case true =>
    have hv : sndP e b t p y r = false := by unfold sndP; rw [h0, h1, h2, h3, h4, h5]; rfl
    rw [hv]
    exact Eng.path_pure sym_names (Eng.noAns_ok _) (snd23_5 c e b t p y r v) ⟨⟨⟨⟨⟨⟨trivial, h0⟩, h1⟩, h2⟩, h3⟩, h4⟩, h5⟩ (fun u hu => one_flat rfl hu) rfl
  have hv : sndP e b t p y r = true := by unfold sndP; rw [h0, h1, h2, h3, h4, h5]; rfl
  rw [hv]
  exact Eng.path_pure sym_names (Eng.noAns_ok _) (snd23_6 c e b t p y r v) ⟨⟨⟨⟨⟨⟨trivial, h0⟩, h1⟩, h2⟩, h3⟩, h4⟩, h5⟩ (fun u hu => one_flat rfl hu) rfl
theorem snd28 (c e b t p y r : Int) (v : Bool) : Eng.Pure Try.prog 28 [.agg ⟨[Value.int IntKind.u32 c, Value.int IntKind.u8 e, Value.int IntKind.u16 b, Value.int IntKind.u16 t, Value.int IntKind.u16 p, Value.int IntKind.u16 y, Value.int IntKind.u32 r, Value.bool v]⟩] (.bool (sndR e b t p y r)) := by
  cases h0 : decide (e ≤ 21)
  case false =>
    have hv : sndR e b t p y r = false := by unfold sndR; rw [h0]; rfl
    rw [hv]
    exact Eng.path_pure sym_names (Eng.noAns_ok _) (snd28_0 c e b t p y r v) ⟨⟨⟨⟨trivial, h0⟩, h0⟩, h0⟩, h0⟩ (fun u hu => one_flat rfl hu) rfl
  cases h1 : decide (b < 4096)
  case false =>
    have hv : sndR e b t p y r = false := by unfold sndR; rw [h0, h1]; rfl
    rw [hv]
    exact Eng.path_pure sym_names (Eng.noAns_ok _) (snd28_1 c e b t p y r v) ⟨⟨⟨⟨⟨⟨⟨⟨trivial, h0⟩, h0⟩, h0⟩, h0⟩, h1⟩, h1⟩, h1⟩, h1⟩ (fun u hu => one_flat rfl hu) rfl
  cases h2 : decide (t < 4096)
  case false =>
    have hv : sndR e b t p y r = false := by unfold sndR; rw [h0, h1, h2]; rfl
    rw [hv]
    exact Eng.path_pure sym_names (Eng.noAns_ok _) (snd28_2 c e b t p y r v) ⟨⟨⟨⟨⟨⟨⟨⟨⟨⟨⟨⟨trivial, h0⟩, h0⟩, h0⟩, h0⟩, h1⟩, h1⟩, h1⟩, h1⟩, h2⟩, h2⟩, h2⟩, h2⟩ (fun u hu => one_flat rfl hu) rfl
  cases h3 : decide (p ≤ 255)
  case false =>
    have hv : sndR e b t p y r = false := by unfold sndR; rw [h0, h1, h2, h3]; rfl
    rw [hv]
    exact Eng.path_pure sym_names (Eng.noAns_ok _) (snd28_3 c e b t p y r v) ⟨⟨⟨⟨⟨⟨⟨⟨⟨⟨⟨⟨⟨⟨⟨⟨trivial, h0⟩, h0⟩, h0⟩, h0⟩, h1⟩, h1⟩, h1⟩, h1⟩, h2⟩, h2⟩, h2⟩, h2⟩, h3⟩, h3⟩, h3⟩, h3⟩ (fun u hu => one_flat rfl hu) rfl
  cases h4 : decide (y < 4096)
  case false =>
    have hv : sndR e b t p y r = false := by unfold sndR; rw [h0, h1, h2, h3, h4]; rfl
    rw [hv]
    exact Eng.path_pure sym_names (Eng.noAns_ok _) (snd28_4 c e b t p y r v) ⟨⟨⟨⟨⟨⟨⟨⟨⟨⟨⟨⟨⟨⟨⟨⟨⟨⟨⟨⟨trivial, h0⟩, h0⟩, h0⟩, h0⟩, h1⟩, h1⟩, h1⟩, h1⟩, h2⟩, h2⟩, h2⟩, h2⟩, h3⟩, h3⟩, h3⟩, h3⟩, h4⟩, h4⟩, h4⟩, h4⟩ (fun u hu => one_flat rfl hu) rfl
  have hv : sndR e b t p y r = decide (r < 16777216) := by unfold sndR; rw [h0, h1, h2, h3, h4]; simp only [Bool.true_and]
  rw [hv]
  exact Eng.path_pure sym_names (Eng.noAns_ok _) (snd28_5 c e b t p y r v) ⟨⟨⟨⟨⟨⟨⟨⟨⟨⟨⟨⟨⟨⟨⟨⟨⟨⟨⟨⟨trivial, h0⟩, h0⟩, h0⟩, h0⟩, h1⟩, h1⟩, h1⟩, h1⟩, h2⟩, h2⟩, h2⟩, h2⟩, h3⟩, h3⟩, h3⟩, h3⟩, h4⟩, h4⟩, h4⟩, h4⟩ (fun u hu => one_flat rfl hu) rfl

/-- What is known of works and Sound, as a base. -/
def capAns : Eng.Ans := fun f args =>
  bif Nat.beq f 18 then match args with
    | [] => some (.bool true, True)
    | _ => none
  else bif Nat.beq f 23 then match args with
    | [.agg ⟨[Value.int IntKind.u32 _, Value.int IntKind.u8 e, Value.int IntKind.u16 b, Value.int IntKind.u16 t, Value.int IntKind.u16 p, Value.int IntKind.u16 y, Value.int IntKind.u32 r, Value.bool _]⟩] => some (.bool (sndP e b t p y r), True)
    | _ => none
  else bif Nat.beq f 28 then match args with
    | [.agg ⟨[Value.int IntKind.u32 _, Value.int IntKind.u8 e, Value.int IntKind.u16 b, Value.int IntKind.u16 t, Value.int IntKind.u16 p, Value.int IntKind.u16 y, Value.int IntKind.u32 r, Value.bool _]⟩] => some (.bool (sndR e b t p y r), True)
    | _ => none
  else none
theorem capAns_ok : Eng.AnsOk Try.prog capAns := by
  intro f args w q h _
  unfold capAns at h
  cases h1 : Nat.beq f 18
  · rw [h1] at h
    cases h2 : Nat.beq f 23
    · rw [h2] at h
      cases h3 : Nat.beq f 28
      · rw [h3] at h; cases h
      · rw [h3] at h
        simp only [cond_true, cond_false] at h
        split at h
        · cases h
          rw [Nat.eq_of_beq_eq_true h3]
          exact snd28 ..
        · cases h
    · rw [h2] at h
      simp only [cond_true, cond_false] at h
      split at h
      · cases h
        rw [Nat.eq_of_beq_eq_true h2]
        exact snd23 ..
      · cases h
  · rw [h1] at h
    simp only [cond_true] at h
    split at h
    · cases h
      rw [Nat.eq_of_beq_eq_true h1]
      exact works_pure
    · cases h
end Go.Proofs.Ytnnagaioiodniaa
