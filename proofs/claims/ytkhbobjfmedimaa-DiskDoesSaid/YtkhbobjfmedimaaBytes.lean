/- 128 bytes made, and read as a text. -/
import Derived.Test.YtkhbobjfmedimaaD8
import Derived.Lib.ConvBytes
import Derived.Lib.SlBytesRow
namespace Go.Proofs.Ytkhbobjfmedimaa
open Go.RowKit

theorem run_make_bytes128 (w : World) : (Instr.makeSlice 63 (.int .i64 128) (.int .i64 128)).run Try.prog w = .ok (.slice (some ⟨w.heap.size, 0, none⟩) 128 128) (w.alloc (.cells (Array.replicate 128 (.int .u8 0)) 5)) := by
  kernel_rfl
theorem run_conv128 (w : World) : (convert 63 9 (.slice (some ⟨w.heap.size, 0, none⟩) 128 128)).run Try.prog (w.alloc (.cells (Array.replicate 128 (.int .u8 0)) 5)) = .ok (.string (bs zeroS)) (w.alloc (.cells (Array.replicate 128 (.int .u8 0)) 5)) := by
  have ho := Own.new w (Array.replicate 128 (Value.int .u8 0)) 5
  have hb : Lib.Bytes (w.alloc (.cells (Array.replicate 128 (.int .u8 0)) 5)) w.heap.size 0 (bs zeroS) := by
    intro i hi
    have hi2 : i < 128 := by rw [bs_size] at hi; simpa [zeroS] using hi
    rw [Nat.zero_add, ho.cell i (by simp; exact hi2)]
    have hz : i < zeroS.length := by simpa [zeroS] using hi2
    have e0 : zeroS[i] = 0 := by unfold zeroS; exact List.getElem_replicate _
    rw [Array.getElem_replicate]
    refine congrArg some (congrArg (Value.int .u8) ?_)
    show (0 : Int) = ((zeroS[i]'hz).toNat : Int)
    rw [e0]; rfl
  have h := Lib.run_convert_whole (P := Try.prog) _ 63 5 9 Try.underlying63 Try.underlying5 Try.underlying9 w.heap.size 0 (bs zeroS) hb 128
  have e : (bs zeroS).size = 128 := by rw [bs_size]; exact List.length_replicate
  rw [e] at h
  exact h
end Go.Proofs.Ytkhbobjfmedimaa
