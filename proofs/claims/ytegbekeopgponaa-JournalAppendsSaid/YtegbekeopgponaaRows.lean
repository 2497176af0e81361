/-
  No cell of these rows narrows 'for every input' (looked for: loops, veiled, ifaces, maps, wideKeys, modest, calm, conditions, laid).
  DERIVED. THE GIVEN ROWS OF THIS SEAT. 6 by the template 'for every input the law returns true; each argument reads behind the call as it read before'; 0 by the template 'total and deterministic' (their statements: YtegbekeopgponaaTotals.lean).
  GIVEN WITH THE SEED: the statements are not yours to turn. If you find one false, say at which input.
  Laid BY PROGRAM, IN A SANDBOX (cutbox-rows.mjs): the forced cells as the released guide's own fill.sh prints them over the translation c1a1fccfba7c4ed0… (all of the seat's roots in one cut). By AI agents, Wed Nov 11 2026. No macro, syntax, notation, axiom, sorry.
-/
import Derived.Test.YtegbekeopgponaaChecked
import GoSem.Claim
import GoSem.ClaimJoined
import GoSem.ClaimMapViews
import Derived.JoinedTies
import Derived.KernelRfl
namespace Go.Proofs.Ytegbekeopgponaa
/- THE CELL 'sum', in the pinned program and in every row, IS THE sha256 OF THE DUMP (.gsa) THAT YtegbekeopgponaaProg.lean LOADS. Nothing in Lean hashes anything: it is a label: what it is worth is what the hold of that sum in a sandbox is worth. -/
noncomputable def Try.pinned : Pinned := { name := "ytegbekeopgponaa", sum := "c1a1fccfba7c4ed0707b6570f1a757e1e9f5a4bcbac679f15c9480ee1b8f3b93", checked := Try.checked }
namespace Rows
def none {H : Type} : Left H := { results := [], args := [] }

/-- 'sheaflaw13.JournalReads': WHATEVER THE INPUT: true; the input reads as it did. -/
def journalReadsSpec : ChangeSpec := { name := "journalReads", fn := fun _ => fun
  | [d] => { results := [.lit (.bool true)], args := [d] }
  | _ => none }
def journalReadsRow : OpenClaim := { program := "ytegbekeopgponaa", sum := "c1a1fccfba7c4ed0707b6570f1a757e1e9f5a4bcbac679f15c9480ee1b8f3b93", func := "sheaf/sheaflaw13.JournalReads", spec := "journalReads", inPlace := ["internal/abi.NoEscape", "internal/bytealg.MakeNoZero"], apart := false }
def JournalReadsSaid : Prop := journalReadsRow.holds Try.pinned (OpenSpec.ofChange journalReadsSpec)

/-- ITS FALSE NEIGHBOUR: 'it returns false'. Refute it at one input. -/
def journalReadsWrong : ChangeSpec := { name := "journalReads", fn := fun _ => fun
  | [d] => { results := [.lit (.bool false)], args := [d] }
  | _ => none }
def JournalReadsWrongFalsely : Prop := journalReadsRow.holds Try.pinned (OpenSpec.ofChange journalReadsWrong)

/-- 'sheaflaw13.JournalJoins': WHATEVER THE INPUT: true; the input reads as it did. -/
def journalJoinsSpec : ChangeSpec := { name := "journalJoins", fn := fun _ => fun
  | [d] => { results := [.lit (.bool true)], args := [d] }
  | _ => none }
def journalJoinsRow : OpenClaim := { program := "ytegbekeopgponaa", sum := "c1a1fccfba7c4ed0707b6570f1a757e1e9f5a4bcbac679f15c9480ee1b8f3b93", func := "sheaf/sheaflaw13.JournalJoins", spec := "journalJoins", inPlace := ["internal/abi.NoEscape", "internal/bytealg.MakeNoZero"], apart := false }
def JournalJoinsSaid : Prop := journalJoinsRow.holds Try.pinned (OpenSpec.ofChange journalJoinsSpec)

/-- ITS FALSE NEIGHBOUR: 'it returns false'. Refute it at one input. -/
def journalJoinsWrong : ChangeSpec := { name := "journalJoins", fn := fun _ => fun
  | [d] => { results := [.lit (.bool false)], args := [d] }
  | _ => none }
def JournalJoinsWrongFalsely : Prop := journalJoinsRow.holds Try.pinned (OpenSpec.ofChange journalJoinsWrong)

/-- 'sheaflaw13.JournalNobody': WHATEVER THE INPUT: true; the input reads as it did. -/
def journalNobodySpec : ChangeSpec := { name := "journalNobody", fn := fun _ => fun
  | [d] => { results := [.lit (.bool true)], args := [d] }
  | _ => none }
def journalNobodyRow : OpenClaim := { program := "ytegbekeopgponaa", sum := "c1a1fccfba7c4ed0707b6570f1a757e1e9f5a4bcbac679f15c9480ee1b8f3b93", func := "sheaf/sheaflaw13.JournalNobody", spec := "journalNobody", inPlace := ["internal/abi.NoEscape", "internal/bytealg.MakeNoZero"], apart := false }
def JournalNobodySaid : Prop := journalNobodyRow.holds Try.pinned (OpenSpec.ofChange journalNobodySpec)

/-- ITS FALSE NEIGHBOUR: 'it returns false'. Refute it at one input. -/
def journalNobodyWrong : ChangeSpec := { name := "journalNobody", fn := fun _ => fun
  | [d] => { results := [.lit (.bool false)], args := [d] }
  | _ => none }
def JournalNobodyWrongFalsely : Prop := journalNobodyRow.holds Try.pinned (OpenSpec.ofChange journalNobodyWrong)

/-- 'sheaflaw13.JournalRecs': WHATEVER THE INPUT: true; the input reads as it did. -/
def journalRecsSpec : ChangeSpec := { name := "journalRecs", fn := fun _ => fun
  | [d] => { results := [.lit (.bool true)], args := [d] }
  | _ => none }
def journalRecsRow : OpenClaim := { program := "ytegbekeopgponaa", sum := "c1a1fccfba7c4ed0707b6570f1a757e1e9f5a4bcbac679f15c9480ee1b8f3b93", func := "sheaf/sheaflaw13.JournalRecs", spec := "journalRecs", inPlace := ["internal/abi.NoEscape", "internal/bytealg.MakeNoZero"], recurses := true, apart := false }
def JournalRecsSaid : Prop := journalRecsRow.holds Try.pinned (OpenSpec.ofChange journalRecsSpec)

/-- ITS FALSE NEIGHBOUR: 'it returns false'. Refute it at one input. -/
def journalRecsWrong : ChangeSpec := { name := "journalRecs", fn := fun _ => fun
  | [d] => { results := [.lit (.bool false)], args := [d] }
  | _ => none }
def JournalRecsWrongFalsely : Prop := journalRecsRow.holds Try.pinned (OpenSpec.ofChange journalRecsWrong)

/-- 'sheaflaw13.JournalAhead': WHATEVER THE INPUT: true; the input reads as it did. -/
def journalAheadSpec : ChangeSpec := { name := "journalAhead", fn := fun _ => fun
  | [d] => { results := [.lit (.bool true)], args := [d] }
  | _ => none }
def journalAheadRow : OpenClaim := { program := "ytegbekeopgponaa", sum := "c1a1fccfba7c4ed0707b6570f1a757e1e9f5a4bcbac679f15c9480ee1b8f3b93", func := "sheaf/sheaflaw13.JournalAhead", spec := "journalAhead", inPlace := ["internal/abi.NoEscape", "internal/bytealg.MakeNoZero"], unfollowed := true, recurses := true, apart := false }
def JournalAheadSaid : Prop := journalAheadRow.holds Try.pinned (OpenSpec.ofChange journalAheadSpec)

/-- ITS FALSE NEIGHBOUR: 'it returns false'. Refute it at one input. -/
def journalAheadWrong : ChangeSpec := { name := "journalAhead", fn := fun _ => fun
  | [d] => { results := [.lit (.bool false)], args := [d] }
  | _ => none }
def JournalAheadWrongFalsely : Prop := journalAheadRow.holds Try.pinned (OpenSpec.ofChange journalAheadWrong)

/-- 'sheaflaw13.JournalAppends': WHATEVER THE INPUT: true; the input reads as it did. -/
def journalAppendsSpec : ChangeSpec := { name := "journalAppends", fn := fun _ => fun
  | [d] => { results := [.lit (.bool true)], args := [d] }
  | _ => none }
def journalAppendsRow : OpenClaim := { program := "ytegbekeopgponaa", sum := "c1a1fccfba7c4ed0707b6570f1a757e1e9f5a4bcbac679f15c9480ee1b8f3b93", func := "sheaf/sheaflaw13.JournalAppends", spec := "journalAppends", inPlace := ["internal/abi.NoEscape", "internal/bytealg.MakeNoZero"], unfollowed := true, recurses := true, apart := false }
def JournalAppendsSaid : Prop := journalAppendsRow.holds Try.pinned (OpenSpec.ofChange journalAppendsSpec)

/-- ITS FALSE NEIGHBOUR: 'it returns false'. Refute it at one input. -/
def journalAppendsWrong : ChangeSpec := { name := "journalAppends", fn := fun _ => fun
  | [d] => { results := [.lit (.bool false)], args := [d] }
  | _ => none }
def JournalAppendsWrongFalsely : Prop := journalAppendsRow.holds Try.pinned (OpenSpec.ofChange journalAppendsWrong)

/- THE SECOND FORM. 'bulk': how many values and letters a reading holds, each counted each time it is reached (what is shared counts as often as it is met; a slice's spare places count too). A statement '..UptoSaid' is the law's where the arguments, and the package variables that the reading takes, are together of bulk at most 1048576: NARROWER than '..Said'. Prove '..Said' where nothing that the law and all that it calls make is longer than what came in: it says more and counts as full. Else prove '..UptoSaid'. A law counts once. -/
mutual
def uptoBulk {H : Type} : DataW H → Nat
  | .lit (.string bytes) => bytes.length + 1
  | .lit _ => 1
  | .nil => 1
  | .ptr d => uptoBulk d + 1
  | .slice elems spare => uptoBulkAll elems + uptoBulkAll spare + 1
  | .agg parts => uptoBulkAll parts + 1
  | .iface _ d => uptoBulk d + 1
  | .map entries => uptoBulkEntries entries + 1
  | .held _ => 1
def uptoBulkAll {H : Type} : List (DataW H) → Nat
  | [] => 0
  | d :: r => uptoBulk d + uptoBulkAll r
def uptoBulkEntries {H : Type} : List (Lit × DataW H) → Nat
  | [] => 0
  | x :: r => uptoBulkEntry x + uptoBulkEntries r
def uptoBulkEntry {H : Type} : Lit × DataW H → Nat
  | (.string bytes, d) => bytes.length + uptoBulk d + 1
  | (_, d) => uptoBulk d + 1
 end
def uptoSmall : (H : Type) → List (DataW H) → Bool := fun _ ds => decide (uptoBulkAll ds ≤ 1048576)
def OpenSpec.upto (s : _root_.Go.ChangeSpec) : _root_.Go.OpenSpec := { _root_.Go.OpenSpec.ofChange s with cond := some uptoSmall }

/-- 'sheaflaw13.JournalReads', WHERE WHAT IT READS IS OF BULK AT MOST 1048576: true; the input reads as it did. -/
def journalReadsUptoRow : OpenClaim := { program := "ytegbekeopgponaa", sum := "c1a1fccfba7c4ed0707b6570f1a757e1e9f5a4bcbac679f15c9480ee1b8f3b93", func := "sheaf/sheaflaw13.JournalReads", spec := "journalReads", inPlace := ["internal/abi.NoEscape", "internal/bytealg.MakeNoZero"], apart := false, narrowed := true }
def JournalReadsUptoSaid : Prop := journalReadsUptoRow.holds Try.pinned (OpenSpec.upto journalReadsSpec)

/-- 'sheaflaw13.JournalJoins', WHERE WHAT IT READS IS OF BULK AT MOST 1048576: true; the input reads as it did. -/
def journalJoinsUptoRow : OpenClaim := { program := "ytegbekeopgponaa", sum := "c1a1fccfba7c4ed0707b6570f1a757e1e9f5a4bcbac679f15c9480ee1b8f3b93", func := "sheaf/sheaflaw13.JournalJoins", spec := "journalJoins", inPlace := ["internal/abi.NoEscape", "internal/bytealg.MakeNoZero"], apart := false, narrowed := true }
def JournalJoinsUptoSaid : Prop := journalJoinsUptoRow.holds Try.pinned (OpenSpec.upto journalJoinsSpec)

/-- 'sheaflaw13.JournalNobody', WHERE WHAT IT READS IS OF BULK AT MOST 1048576: true; the input reads as it did. -/
def journalNobodyUptoRow : OpenClaim := { program := "ytegbekeopgponaa", sum := "c1a1fccfba7c4ed0707b6570f1a757e1e9f5a4bcbac679f15c9480ee1b8f3b93", func := "sheaf/sheaflaw13.JournalNobody", spec := "journalNobody", inPlace := ["internal/abi.NoEscape", "internal/bytealg.MakeNoZero"], apart := false, narrowed := true }
def JournalNobodyUptoSaid : Prop := journalNobodyUptoRow.holds Try.pinned (OpenSpec.upto journalNobodySpec)

/-- 'sheaflaw13.JournalRecs', WHERE WHAT IT READS IS OF BULK AT MOST 1048576: true; the input reads as it did. -/
def journalRecsUptoRow : OpenClaim := { program := "ytegbekeopgponaa", sum := "c1a1fccfba7c4ed0707b6570f1a757e1e9f5a4bcbac679f15c9480ee1b8f3b93", func := "sheaf/sheaflaw13.JournalRecs", spec := "journalRecs", inPlace := ["internal/abi.NoEscape", "internal/bytealg.MakeNoZero"], recurses := true, apart := false, narrowed := true }
def JournalRecsUptoSaid : Prop := journalRecsUptoRow.holds Try.pinned (OpenSpec.upto journalRecsSpec)

/-- 'sheaflaw13.JournalAhead', WHERE WHAT IT READS IS OF BULK AT MOST 1048576: true; the input reads as it did. -/
def journalAheadUptoRow : OpenClaim := { program := "ytegbekeopgponaa", sum := "c1a1fccfba7c4ed0707b6570f1a757e1e9f5a4bcbac679f15c9480ee1b8f3b93", func := "sheaf/sheaflaw13.JournalAhead", spec := "journalAhead", inPlace := ["internal/abi.NoEscape", "internal/bytealg.MakeNoZero"], unfollowed := true, recurses := true, apart := false, narrowed := true }
def JournalAheadUptoSaid : Prop := journalAheadUptoRow.holds Try.pinned (OpenSpec.upto journalAheadSpec)

/-- 'sheaflaw13.JournalAppends', WHERE WHAT IT READS IS OF BULK AT MOST 1048576: true; the input reads as it did. -/
def journalAppendsUptoRow : OpenClaim := { program := "ytegbekeopgponaa", sum := "c1a1fccfba7c4ed0707b6570f1a757e1e9f5a4bcbac679f15c9480ee1b8f3b93", func := "sheaf/sheaflaw13.JournalAppends", spec := "journalAppends", inPlace := ["internal/abi.NoEscape", "internal/bytealg.MakeNoZero"], unfollowed := true, recurses := true, apart := false, narrowed := true }
def JournalAppendsUptoSaid : Prop := journalAppendsUptoRow.holds Try.pinned (OpenSpec.upto journalAppendsSpec)

end Rows
end Go.Proofs.Ytegbekeopgponaa
