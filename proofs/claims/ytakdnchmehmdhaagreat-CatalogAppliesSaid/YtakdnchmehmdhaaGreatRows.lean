/-
  No cell of these rows narrows 'for every input' (looked for: loops, veiled, ifaces, maps, wideKeys, modest, calm, conditions, laid).
  DERIVED. THE GIVEN ROWS OF THIS SEAT. 6 by the template 'for every input the law returns true; each argument reads behind the call as it read before'; 0 by the template 'total and deterministic' (their statements: YtakdnchmehmdhaaGreatTotals.lean).
  GIVEN WITH THE SEED: the statements are not yours to turn. If you find one false, say at which input.
  Laid BY PROGRAM, IN A SANDBOX (cutbox-rows.mjs): the forced cells as the released guide's own fill.sh prints them over the translation 7c9a7f03c7d94177… (all of the seat's roots in one cut). By AI agents, Wed Nov 11 2026. No macro, syntax, notation, axiom, sorry.
-/
import Derived.Test.YtakdnchmehmdhaaGreatChecked
import GoSem.Claim
import GoSem.ClaimJoined
import GoSem.ClaimMapViews
import Derived.JoinedTies
import Derived.KernelRfl
namespace Go.Proofs.YtakdnchmehmdhaaGreat
/- THE CELL 'sum', in the pinned program and in every row, IS THE sha256 OF THE DUMP (.gsa) THAT YtakdnchmehmdhaaGreatProg.lean LOADS. Nothing in Lean hashes anything: it is a label: what it is worth is what the hold of that sum in a sandbox is worth. -/
noncomputable def Tryz.pinned : Pinned := { name := "ytakdnchmehmdhaagreat", sum := "7c9a7f03c7d9417737b13efb4a3c3ae3d808bbbf93a01a1f7f7844601d9891f4", checked := Tryz.checked }
namespace Rows
def none {H : Type} : Left H := { results := [], args := [] }

/-- 'sheaflaw21.CatalogPuts': WHATEVER THE INPUT: true; the input reads as it did. -/
def catalogPutsSpec : ChangeSpec := { name := "catalogPuts", fn := fun _ => fun
  | [d1, d2] => { results := [.lit (.bool true)], args := [d1, d2] }
  | _ => none }
def catalogPutsRow : OpenClaim := { program := "ytakdnchmehmdhaagreat", sum := "7c9a7f03c7d9417737b13efb4a3c3ae3d808bbbf93a01a1f7f7844601d9891f4", func := "sheaf/sheaflaw21.CatalogPuts", spec := "catalogPuts", inPlace := ["internal/bytealg.abigen_runtime_cmpstring", "slices.overlaps[sheaf/api.Item]"], unfollowed := true, recurses := true, apart := false }
def CatalogPutsSaid : Prop := catalogPutsRow.holds Tryz.pinned (OpenSpec.ofChange catalogPutsSpec)

/-- ITS FALSE NEIGHBOUR: 'it returns false'. Refute it at one input. -/
def catalogPutsWrong : ChangeSpec := { name := "catalogPuts", fn := fun _ => fun
  | [d1, d2] => { results := [.lit (.bool false)], args := [d1, d2] }
  | _ => none }
def CatalogPutsWrongFalsely : Prop := catalogPutsRow.holds Tryz.pinned (OpenSpec.ofChange catalogPutsWrong)

/-- 'sheaflaw21.CatalogGets': WHATEVER THE INPUT: true; the input reads as it did. -/
def catalogGetsSpec : ChangeSpec := { name := "catalogGets", fn := fun _ => fun
  | [d] => { results := [.lit (.bool true)], args := [d] }
  | _ => none }
def catalogGetsRow : OpenClaim := { program := "ytakdnchmehmdhaagreat", sum := "7c9a7f03c7d9417737b13efb4a3c3ae3d808bbbf93a01a1f7f7844601d9891f4", func := "sheaf/sheaflaw21.CatalogGets", spec := "catalogGets", inPlace := ["internal/bytealg.abigen_runtime_cmpstring", "slices.overlaps[sheaf/api.Item]"], unfollowed := true, recurses := true, apart := false }
def CatalogGetsSaid : Prop := catalogGetsRow.holds Tryz.pinned (OpenSpec.ofChange catalogGetsSpec)

/-- ITS FALSE NEIGHBOUR: 'it returns false'. Refute it at one input. -/
def catalogGetsWrong : ChangeSpec := { name := "catalogGets", fn := fun _ => fun
  | [d] => { results := [.lit (.bool false)], args := [d] }
  | _ => none }
def CatalogGetsWrongFalsely : Prop := catalogGetsRow.holds Tryz.pinned (OpenSpec.ofChange catalogGetsWrong)

/-- 'sheaflaw21.CatalogApplies': WHATEVER THE INPUT: true; the input reads as it did. -/
def catalogAppliesSpec : ChangeSpec := { name := "catalogApplies", fn := fun _ => fun
  | [d1, d2] => { results := [.lit (.bool true)], args := [d1, d2] }
  | _ => none }
def catalogAppliesRow : OpenClaim := { program := "ytakdnchmehmdhaagreat", sum := "7c9a7f03c7d9417737b13efb4a3c3ae3d808bbbf93a01a1f7f7844601d9891f4", func := "sheaf/sheaflaw21.CatalogApplies", spec := "catalogApplies", inPlace := ["internal/bytealg.abigen_runtime_cmpstring", "slices.overlaps[sheaf/api.Item]"], unfollowed := true, recurses := true, apart := false }
def CatalogAppliesSaid : Prop := catalogAppliesRow.holds Tryz.pinned (OpenSpec.ofChange catalogAppliesSpec)

/-- ITS FALSE NEIGHBOUR: 'it returns false'. Refute it at one input. -/
def catalogAppliesWrong : ChangeSpec := { name := "catalogApplies", fn := fun _ => fun
  | [d1, d2] => { results := [.lit (.bool false)], args := [d1, d2] }
  | _ => none }
def CatalogAppliesWrongFalsely : Prop := catalogAppliesRow.holds Tryz.pinned (OpenSpec.ofChange catalogAppliesWrong)

/-- 'sheaflaw21.CatalogLies': WHATEVER THE INPUT: true; the input reads as it did. -/
def catalogLiesSpec : ChangeSpec := { name := "catalogLies", fn := fun _ => fun
  | [d1, d2, d3, d4] => { results := [.lit (.bool true)], args := [d1, d2, d3, d4] }
  | _ => none }
def catalogLiesRow : OpenClaim := { program := "ytakdnchmehmdhaagreat", sum := "7c9a7f03c7d9417737b13efb4a3c3ae3d808bbbf93a01a1f7f7844601d9891f4", func := "sheaf/sheaflaw21.CatalogLies", spec := "catalogLies", inPlace := ["internal/bytealg.abigen_runtime_cmpstring", "slices.overlaps[sheaf/api.Item]"], unfollowed := true, recurses := true, apart := false }
def CatalogLiesSaid : Prop := catalogLiesRow.holds Tryz.pinned (OpenSpec.ofChange catalogLiesSpec)

/-- ITS FALSE NEIGHBOUR: 'it returns false'. Refute it at one input. -/
def catalogLiesWrong : ChangeSpec := { name := "catalogLies", fn := fun _ => fun
  | [d1, d2, d3, d4] => { results := [.lit (.bool false)], args := [d1, d2, d3, d4] }
  | _ => none }
def CatalogLiesWrongFalsely : Prop := catalogLiesRow.holds Tryz.pinned (OpenSpec.ofChange catalogLiesWrong)

/-- 'sheaflaw21.CatalogBack': WHATEVER THE INPUT: true; the input reads as it did. -/
def catalogBackSpec : ChangeSpec := { name := "catalogBack", fn := fun _ => fun
  | [d1, d2] => { results := [.lit (.bool true)], args := [d1, d2] }
  | _ => none }
def catalogBackRow : OpenClaim := { program := "ytakdnchmehmdhaagreat", sum := "7c9a7f03c7d9417737b13efb4a3c3ae3d808bbbf93a01a1f7f7844601d9891f4", func := "sheaf/sheaflaw21.CatalogBack", spec := "catalogBack", inPlace := ["internal/bytealg.abigen_runtime_cmpstring", "slices.overlaps[sheaf/api.Item]"], unfollowed := true, recurses := true, apart := false }
def CatalogBackSaid : Prop := catalogBackRow.holds Tryz.pinned (OpenSpec.ofChange catalogBackSpec)

/-- ITS FALSE NEIGHBOUR: 'it returns false'. Refute it at one input. -/
def catalogBackWrong : ChangeSpec := { name := "catalogBack", fn := fun _ => fun
  | [d1, d2] => { results := [.lit (.bool false)], args := [d1, d2] }
  | _ => none }
def CatalogBackWrongFalsely : Prop := catalogBackRow.holds Tryz.pinned (OpenSpec.ofChange catalogBackWrong)

/-- 'sheaflaw21.CatalogFinds': WHATEVER THE INPUT: true; the input reads as it did. -/
def catalogFindsSpec : ChangeSpec := { name := "catalogFinds", fn := fun _ => fun
  | [d1, d2, d3] => { results := [.lit (.bool true)], args := [d1, d2, d3] }
  | _ => none }
def catalogFindsRow : OpenClaim := { program := "ytakdnchmehmdhaagreat", sum := "7c9a7f03c7d9417737b13efb4a3c3ae3d808bbbf93a01a1f7f7844601d9891f4", func := "sheaf/sheaflaw21.CatalogFinds", spec := "catalogFinds", inPlace := ["internal/bytealg.abigen_runtime_cmpstring", "slices.overlaps[sheaf/api.Item]"], unfollowed := true, recurses := true, apart := false }
def CatalogFindsSaid : Prop := catalogFindsRow.holds Tryz.pinned (OpenSpec.ofChange catalogFindsSpec)

/-- ITS FALSE NEIGHBOUR: 'it returns false'. Refute it at one input. -/
def catalogFindsWrong : ChangeSpec := { name := "catalogFinds", fn := fun _ => fun
  | [d1, d2, d3] => { results := [.lit (.bool false)], args := [d1, d2, d3] }
  | _ => none }
def CatalogFindsWrongFalsely : Prop := catalogFindsRow.holds Tryz.pinned (OpenSpec.ofChange catalogFindsWrong)

/- THE SECOND FORM. 'bulk': how many values and letters a reading holds, each counted each time it is reached (what is shared counts as often as it is met; a slice's spare places count too). A statement '..UptoSaid' is the law's where the arguments, and the package variables that the reading takes, are together of bulk at most 1048576: NARROWER than '..Said'. Prove '..Said' where nothing that the law and all that it calls make is longer than what came in: it says more and counts as full. Else prove '..UptoSaid'. A law counts once. -/
mutual
def uptoBulk {H : Type} : DataW H → Nat
  | .lit (.string bytes) => bytes.length + 1
  | .lit _ => 1
  | .nil => 1
  | .ptr d => uptoBulk d + 1
  | .slice elems spare => uptoBulkAll elems + uptoBulkAll spare + 1
  | .agg parts => uptoBulkAll parts + 1
  | .iface _ d => uptoBulk d + 1
  | .map entries => uptoBulkEntries entries + 1
  | .held _ => 1
def uptoBulkAll {H : Type} : List (DataW H) → Nat
  | [] => 0
  | d :: r => uptoBulk d + uptoBulkAll r
def uptoBulkEntries {H : Type} : List (Lit × DataW H) → Nat
  | [] => 0
  | x :: r => uptoBulkEntry x + uptoBulkEntries r
def uptoBulkEntry {H : Type} : Lit × DataW H → Nat
  | (.string bytes, d) => bytes.length + uptoBulk d + 1
  | (_, d) => uptoBulk d + 1
 end
def uptoSmall : (H : Type) → List (DataW H) → Bool := fun _ ds => decide (uptoBulkAll ds ≤ 1048576)
def OpenSpec.upto (s : _root_.Go.ChangeSpec) : _root_.Go.OpenSpec := { _root_.Go.OpenSpec.ofChange s with cond := some uptoSmall }

/-- 'sheaflaw21.CatalogPuts', WHERE WHAT IT READS IS OF BULK AT MOST 1048576: true; the input reads as it did. -/
def catalogPutsUptoRow : OpenClaim := { program := "ytakdnchmehmdhaagreat", sum := "7c9a7f03c7d9417737b13efb4a3c3ae3d808bbbf93a01a1f7f7844601d9891f4", func := "sheaf/sheaflaw21.CatalogPuts", spec := "catalogPuts", inPlace := ["internal/bytealg.abigen_runtime_cmpstring", "slices.overlaps[sheaf/api.Item]"], unfollowed := true, recurses := true, apart := false, narrowed := true }
def CatalogPutsUptoSaid : Prop := catalogPutsUptoRow.holds Tryz.pinned (OpenSpec.upto catalogPutsSpec)

/-- 'sheaflaw21.CatalogGets', WHERE WHAT IT READS IS OF BULK AT MOST 1048576: true; the input reads as it did. -/
def catalogGetsUptoRow : OpenClaim := { program := "ytakdnchmehmdhaagreat", sum := "7c9a7f03c7d9417737b13efb4a3c3ae3d808bbbf93a01a1f7f7844601d9891f4", func := "sheaf/sheaflaw21.CatalogGets", spec := "catalogGets", inPlace := ["internal/bytealg.abigen_runtime_cmpstring", "slices.overlaps[sheaf/api.Item]"], unfollowed := true, recurses := true, apart := false, narrowed := true }
def CatalogGetsUptoSaid : Prop := catalogGetsUptoRow.holds Tryz.pinned (OpenSpec.upto catalogGetsSpec)

/-- 'sheaflaw21.CatalogApplies', WHERE WHAT IT READS IS OF BULK AT MOST 1048576: true; the input reads as it did. -/
def catalogAppliesUptoRow : OpenClaim := { program := "ytakdnchmehmdhaagreat", sum := "7c9a7f03c7d9417737b13efb4a3c3ae3d808bbbf93a01a1f7f7844601d9891f4", func := "sheaf/sheaflaw21.CatalogApplies", spec := "catalogApplies", inPlace := ["internal/bytealg.abigen_runtime_cmpstring", "slices.overlaps[sheaf/api.Item]"], unfollowed := true, recurses := true, apart := false, narrowed := true }
def CatalogAppliesUptoSaid : Prop := catalogAppliesUptoRow.holds Tryz.pinned (OpenSpec.upto catalogAppliesSpec)

/-- 'sheaflaw21.CatalogLies', WHERE WHAT IT READS IS OF BULK AT MOST 1048576: true; the input reads as it did. -/
def catalogLiesUptoRow : OpenClaim := { program := "ytakdnchmehmdhaagreat", sum := "7c9a7f03c7d9417737b13efb4a3c3ae3d808bbbf93a01a1f7f7844601d9891f4", func := "sheaf/sheaflaw21.CatalogLies", spec := "catalogLies", inPlace := ["internal/bytealg.abigen_runtime_cmpstring", "slices.overlaps[sheaf/api.Item]"], unfollowed := true, recurses := true, apart := false, narrowed := true }
def CatalogLiesUptoSaid : Prop := catalogLiesUptoRow.holds Tryz.pinned (OpenSpec.upto catalogLiesSpec)

/-- 'sheaflaw21.CatalogBack', WHERE WHAT IT READS IS OF BULK AT MOST 1048576: true; the input reads as it did. -/
def catalogBackUptoRow : OpenClaim := { program := "ytakdnchmehmdhaagreat", sum := "7c9a7f03c7d9417737b13efb4a3c3ae3d808bbbf93a01a1f7f7844601d9891f4", func := "sheaf/sheaflaw21.CatalogBack", spec := "catalogBack", inPlace := ["internal/bytealg.abigen_runtime_cmpstring", "slices.overlaps[sheaf/api.Item]"], unfollowed := true, recurses := true, apart := false, narrowed := true }
def CatalogBackUptoSaid : Prop := catalogBackUptoRow.holds Tryz.pinned (OpenSpec.upto catalogBackSpec)

/-- 'sheaflaw21.CatalogFinds', WHERE WHAT IT READS IS OF BULK AT MOST 1048576: true; the input reads as it did. -/
def catalogFindsUptoRow : OpenClaim := { program := "ytakdnchmehmdhaagreat", sum := "7c9a7f03c7d9417737b13efb4a3c3ae3d808bbbf93a01a1f7f7844601d9891f4", func := "sheaf/sheaflaw21.CatalogFinds", spec := "catalogFinds", inPlace := ["internal/bytealg.abigen_runtime_cmpstring", "slices.overlaps[sheaf/api.Item]"], unfollowed := true, recurses := true, apart := false, narrowed := true }
def CatalogFindsUptoSaid : Prop := catalogFindsUptoRow.holds Tryz.pinned (OpenSpec.upto catalogFindsSpec)

end Rows
end Go.Proofs.YtakdnchmehmdhaaGreat
