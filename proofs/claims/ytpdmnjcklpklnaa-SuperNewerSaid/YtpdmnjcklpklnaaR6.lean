/- Walks of layer 11 (super): the functions that lay a superblock's numbers. -/
import Derived.Test.YtpdmnjcklpklnaaR3
import Derived.Test.YtpdmnjcklpklnaaC2
import Derived.Deep.RegionHeld3
import Derived.Deep.RegionWith
import Derived.BigRegion
import Derived.Deep.AppendLies
import Derived.Maps.AppendAt
import Derived.Deep.CutBlock
import Derived.Deep.DeepCutAuto
namespace Go.Proofs.Ytpdmnjcklpklnaa
open Go.RowKit
set_option linter.unusedVariables false
set_option linter.unusedSimpArgs false

set_option maxRecDepth 100000 in
theorem fword (n : Int) (w : World) :
    Calls Try.prog 43 #[.int .i64 n] w fun e w' => e = .returned (.func (.func 44) #[] #[.pointer (some ⟨w.heap.size, 0, none⟩)]) ∧ w.alloc (.cells #[.int .i64 n] 3) = w' := by
  go_enter Try.func43, Try.ntmps43
  go_wp2_with fail
  go_ret
  exact ⟨rfl, rfl⟩
set_option maxRecDepth 100000 in
theorem fhalf (n : Int) (w : World) :
    Calls Try.prog 46 #[.int .i64 n] w fun e w' => e = .returned (.func (.func 47) #[] #[.pointer (some ⟨w.heap.size, 0, none⟩)]) ∧ w.alloc (.cells #[.int .i64 n] 3) = w' := by
  go_enter Try.func46, Try.ntmps46
  go_wp2_with fail
  go_ret
  exact ⟨rfl, rfl⟩

/-- what a function lays. -/
inductive Ly
  | hd (s : SB) (v : Value)
  | wd (n : Nat)
  | hf (n : Nat)
def magicL : List UInt8 := [83, 72, 69, 65, 70, 48, 48, 49]
def Ly.txt : Ly → List UInt8
  | .hd s _ => magicL ++ numL s.seq 8
  | .wd n => numL n 4
  | .hf n => numL n 2
/-- the value v is a function that lays y, in blocks from lo on. -/
def LayAt (w : World) (lo : Nat) (v : Value) : Ly → Prop
  | .hd s u => ∃ g, lo ≤ g ∧ v = .func (.func 49) #[] #[.pointer (some ⟨g, 0, none⟩)] ∧ Own w g (s.cells u) 25 ∧ s.seq < 18446744073709551616
  | .wd n => ∃ g, lo ≤ g ∧ v = .func (.func 44) #[] #[.pointer (some ⟨g, 0, none⟩)] ∧ Own w g #[.int .i64 n] 3 ∧ n < 4294967296
  | .hf n => ∃ g, lo ≤ g ∧ v = .func (.func 47) #[] #[.pointer (some ⟨g, 0, none⟩)] ∧ Own w g #[.int .i64 n] 3 ∧ n < 65536
theorem LayAt.kept {S : List Nat} {w w' : World} {lo : Nat} {v : Value} {y : Ly} (h : LayAt w lo v y) (k : Kept S w w') (hS : ∀ x ∈ S, x < lo) : LayAt w' lo v y := by
  have key : ∀ g, lo ≤ g → g ∉ S := fun g hg hx => by have := hS g hx; omega
  cases y with
  | hd s u => obtain ⟨g, h1, h2, h3, h4⟩ := h; exact ⟨g, h1, h2, k.own h3 (key g h1), h4⟩
  | wd n => obtain ⟨g, h1, h2, h3, h4⟩ := h; exact ⟨g, h1, h2, k.own h3 (key g h1), h4⟩
  | hf n => obtain ⟨g, h1, h2, h3, h4⟩ := h; exact ⟨g, h1, h2, k.own h3 (key g h1), h4⟩

set_option maxRecDepth 100000 in
theorem cl_wd (g n : Nat) (w : World) (h : Own w g #[.int .i64 n] 3) (hn : n < 4294967296) :
    Calls Try.prog 44 #[.pointer (some ⟨g, 0, none⟩)] w fun e w' => e = .returned (.string (bs (numL n 4))) ∧ Kept [] w w' := by
  have hu := fun w => packU32 n w hn
  have c0 : w.cell? ⟨g, 0, none⟩ = some (.int .i64 (n : Int)) := h.cell 0 (by simp)
  have e1 : IntKind.u32.wrap (n : Int) = (n : Int) := by rw [IntKind.wrap_u32]; omega
  go_enter Try.func44, Try.ntmps44
  go_wp2_with fail
  refine (hu _).mono ?_; rintro e w1 ⟨rfl, hk⟩
  go_wp2_with fail
  go_ret
  exact ⟨rfl, hk⟩
set_option maxRecDepth 100000 in
theorem cl_hf (g n : Nat) (w : World) (h : Own w g #[.int .i64 n] 3) (hn : n < 65536) :
    Calls Try.prog 47 #[.pointer (some ⟨g, 0, none⟩)] w fun e w' => e = .returned (.string (bs (numL n 2))) ∧ Kept [] w w' := by
  have hu := fun w => packU16 n w hn
  have c0 : w.cell? ⟨g, 0, none⟩ = some (.int .i64 (n : Int)) := h.cell 0 (by simp)
  go_enter Try.func47, Try.ntmps47
  go_wp2_with fail
  refine (hu _).mono ?_; rintro e w1 ⟨rfl, hk⟩
  go_wp2_with fail
  go_ret
  exact ⟨rfl, hk⟩
set_option maxRecDepth 100000 in
theorem cl_hd (g : Nat) (s : SB) (u : Value) (w : World) (h : Own w g (s.cells u) 25) (hn : s.seq < 18446744073709551616) :
    Calls Try.prog 49 #[.pointer (some ⟨g, 0, none⟩)] w fun e w' => e = .returned (.string (bs (magicL ++ numL s.seq 8))) ∧ Kept [] w w' := by
  have hu := fun w => packU64 s.seq w hn
  have c0 : w.cell? ⟨g, 0, none⟩ = some (.int .u64 (s.seq : Int)) := Own.cell h 0 (by simp [SB.cells])
  have hz : (bs (numL s.seq 8)).size ≤ 8 := by rw [bs_size, numL_len]; omega
  have hfin : Hid (bs magicL ++ bs (numL s.seq 8) = bs (magicL ++ numL s.seq 8)) := by show bs magicL ++ _ = _; rw [bs_append]
  generalize numL s.seq 8 = N at *
  go_enter Try.func49, Try.ntmps49
  go_wp2_with fail
  refine (hu _).mono ?_; rintro e w1 ⟨rfl, hk⟩
  go_wp2_with fail
  go_ret
  exact ⟨by rw [← hfin.out]; rfl, hk⟩
end Go.Proofs.Ytpdmnjcklpklnaa
