/- The walk of the statement on rows that are moved, at what the row hands over. -/
import Derived.Test.YtkghkkfcgegmeaaM1
namespace Go.Proofs.Ytkghkkfcgegmeaa
open Go.RowKit

theorem moves_row (vl : Value) (l : List Int) (vm : Value) (m : List Int) (s : Int) (w : World) (hl : IntsAt .i32 w vl l) (hm : IntsAt .i32 w vm m) (hs : (Lit.int .u8 s).wf = true) :
    Calls Try.prog 11 #[vl, vm, .int .u8 s] w fun e w' => e = .returned (.bool true) ∧ Below w.heap.size w w' := by
  have e1 : IntKind.u8.min = 0 := by decide
  have e2 : IntKind.u8.max = 255 := by decide
  simp only [Lit.wf, decide_eq_true_eq, Bool.and_eq_true, e1, e2] at hs
  exact moves_walk vl l vm m s w hl hm hs.1 hs.2
end Go.Proofs.Ytkghkkfcgegmeaa
