/- Walks of layer 9 (disk): a text as a sector; nobody's disk. -/
import Derived.Test.YtkhbobjfmedimaaD8
namespace Go.Proofs.Ytkhbobjfmedimaa
open Go.RowKit Go.Maps
set_option linter.unusedVariables false
set_option linter.unusedSimpArgs false

theorem dImage_nil (w : World) : Calls Try.prog 11 #[.pointer none] w fun e w' => e = .returned (.string ⟨#[]⟩) ∧ w = w' := by
  go_enter Try.func11, Try.ntmps11
  go_wp2_with fail
  go_ret
  exact ⟨rfl, rfl⟩
theorem dSpoil_nil (i : Int) (s : ByteArray) (w : World) : Calls Try.prog 25 #[.pointer none, .int .i64 i, .string s] w fun e w' => e = .returned (.int .i64 4) ∧ w = w' := by
  go_enter Try.func25, Try.ntmps25
  go_wp2_with fail
  go_ret
  exact ⟨rfl, rfl⟩
/-- 128 bytes that begin with s. -/
def sectorL (s : List UInt8) : List UInt8 := (s ++ List.replicate (128 - s.length) 45).take 128
theorem sectorL_len (s : List UInt8) : (sectorL s).length = 128 := by
  unfold sectorL; rw [List.length_take, List.length_append, List.length_replicate]; omega
def strSize : Value → Nat
  | .string s => s.size
  | _ => 0
theorem bs_snoc (l : List UInt8) : bs l ++ (⟨#[45]⟩ : ByteArray) = bs (l ++ [45]) := by rw [show (⟨#[45]⟩ : ByteArray) = bs [45] from rfl, bs_append]
set_option maxRecDepth 100000 in
theorem dSector (s : List UInt8) (w : World) (hs : s.length ≤ maxLen) : Calls Try.prog 9 #[.string (bs s)] w fun e w' => e = .returned (.string (bs (sectorL s))) ∧ w = w' := by
  go_enter Try.func9, Try.ntmps9
  go_wp2_with fail
  go_loop [0] (fun t => ∃ j : Nat, (j = 0 ∨ s.length + j ≤ 128) ∧ t = .string (bs (s ++ List.replicate j 45))) (fun t => 128 - strSize t)
  case atStart => exact ⟨0, Or.inl rfl, by simp⟩
  case round =>
    obtain ⟨j, hj, rfl⟩ := hrel
    have hz : (bs (s ++ List.replicate j 45)).size = s.length + j := by rw [bs_size, List.length_append, List.length_replicate]
    have hsn : Hid (bs (s ++ List.replicate j 45) ++ (⟨#[45]⟩ : ByteArray) = bs (s ++ List.replicate (j + 1) 45)) := by
      show _ = _
      rw [bs_snoc, List.append_assoc]
      congr 2
      rw [List.replicate_succ']
    have hz2 : Hid ((bs (s ++ List.replicate (j + 1) 45)).size = s.length + j + 1) := by
      show _ = _; rw [bs_size, List.length_append, List.length_replicate]; omega
    have hfin : Hid (128 ≤ s.length + j → (bs (s ++ List.replicate j 45)).extract 0 128 = bs (sectorL s)) := fun hge => by
      have e : s ++ List.replicate j 45 = s ++ List.replicate (128 - s.length) 45 := by
        congr 2; omega
      rw [e]
      apply ByteArray.ext
      simp [bs, sectorL, ByteArray.data_extract]
    have HJ := Lib.hid hj
    generalize hT : bs (s ++ List.replicate j 45) = T at *
    have HT := Lib.hid hT
    clear hT
    by_cases hlt : T.size < 128
    · have hlt' : (T.size : Int) < 128 := by omega
      go_wp2_with fail
      go_round
      case rel => exact ⟨j + 1, Or.inr (by omega), by rw [← hsn.out]⟩
      case measure =>
        show 128 - (T ++ (⟨#[45]⟩ : ByteArray)).size < 128 - T.size
        rw [hsn.out, hz2.out]; omega
    · have hge : ¬ ((T.size : Int) < 128) := by omega
      have hf := hfin.out (by omega)
      have HF := Lib.hid hf
      have hge2 : (128 : Int) ≤ T.size := by omega
      clear hf hz hj hlt hfin hsn hz2 HJ HT
      go_wp2_with fail
      go_ret
      exact ⟨by rw [← HF.out]; rfl, rfl⟩
end Go.Proofs.Ytkhbobjfmedimaa
