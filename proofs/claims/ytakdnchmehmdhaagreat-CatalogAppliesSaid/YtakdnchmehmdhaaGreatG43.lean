/- Layer 54 (catalog): a catalog that may be is small. -/
import Derived.Test.YtakdnchmehmdhaaGreatG38
namespace Go.Proofs.YtakdnchmehmdhaaGreat
open Go.RowKit
set_option linter.unusedVariables false
set_option linter.unusedSimpArgs false

theorem mayL.small {k : Int} {l : List JItem} {most : Nat} (h : mayL k l most) (hm : most ≤ 1000000) : SmallL l := ⟨Nat.le_trans h.1 hm, fun a ha => by
  have := may_runs (h.2.1 a ha)
  have e : (a.told k).runs = a.runs := rfl
  rw [e] at this; omega⟩
theorem mayC.small {c : JCat} (h : mayC c) : SmallC c := ⟨h.boxes.small (by decide), h.mans.small (by decide), h.names.small (by decide)⟩
theorem small_catNo : SmallC catNo := ⟨⟨by decide, fun a ha => (by cases ha)⟩, ⟨by decide, fun a ha => (by cases ha)⟩, ⟨by decide, fun a ha => (by cases ha)⟩⟩
end Go.Proofs.YtakdnchmehmdhaaGreat
