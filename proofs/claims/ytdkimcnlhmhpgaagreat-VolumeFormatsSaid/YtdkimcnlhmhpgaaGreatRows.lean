/-
  No cell of these rows narrows 'for every input' (looked for: loops, veiled, ifaces, maps, wideKeys, modest, calm, conditions, laid).
  DERIVED. THE GIVEN ROWS OF THIS SEAT. 6 by the template 'for every input the law returns true; each argument reads behind the call as it read before'; 0 by the template 'total and deterministic' (their statements: YtdkimcnlhmhpgaaGreatTotals.lean).
  GIVEN WITH THE SEED: the statements are not yours to turn. If you find one false, say at which input.
  Laid BY PROGRAM, IN A SANDBOX (cutbox-rows.mjs): the forced cells as the released guide's own fill.sh prints them over the translation 7159c9ff127612fd… (all of the seat's roots in one cut). By AI agents, Wed Nov 11 2026. No macro, syntax, notation, axiom, sorry.
-/
import Derived.Test.YtdkimcnlhmhpgaaGreatChecked
import GoSem.Claim
import GoSem.ClaimJoined
import GoSem.ClaimMapViews
import Derived.JoinedTies
import Derived.KernelRfl
namespace Go.Proofs.YtdkimcnlhmhpgaaGreat
/- THE CELL 'sum', in the pinned program and in every row, IS THE sha256 OF THE DUMP (.gsa) THAT YtdkimcnlhmhpgaaGreatProg.lean LOADS. Nothing in Lean hashes anything: it is a label: what it is worth is what the hold of that sum in a sandbox is worth. -/
noncomputable def Tryz.pinned : Pinned := { name := "ytdkimcnlhmhpgaagreat", sum := "7159c9ff127612fdccd28810607389852ed4ea133f43b94a2395718e30e1cfd3", checked := Tryz.checked }
namespace Rows
def none {H : Type} : Left H := { results := [], args := [] }

/-- 'sheaflaw24.VolumeHolds': WHATEVER THE INPUT: true; the input reads as it did. -/
def volumeHoldsSpec : ChangeSpec := { name := "volumeHolds", fn := fun _ => fun
  | [d1, d2, d3, d4, d5] => { results := [.lit (.bool true)], args := [d1, d2, d3, d4, d5] }
  | _ => none }
def volumeHoldsRow : OpenClaim := { program := "ytdkimcnlhmhpgaagreat", sum := "7159c9ff127612fdccd28810607389852ed4ea133f43b94a2395718e30e1cfd3", func := "sheaf/sheaflaw24.VolumeHolds", spec := "volumeHolds", inPlace := ["internal/abi.NoEscape", "internal/bytealg.MakeNoZero", "internal/bytealg.abigen_runtime_cmpstring", "slices.overlaps[sheaf/api.Item]"], unfollowed := true, recurses := true, apart := false }
def VolumeHoldsSaid : Prop := volumeHoldsRow.holds Tryz.pinned (OpenSpec.ofChange volumeHoldsSpec)

/-- ITS FALSE NEIGHBOUR: 'it returns false'. Refute it at one input. -/
def volumeHoldsWrong : ChangeSpec := { name := "volumeHolds", fn := fun _ => fun
  | [d1, d2, d3, d4, d5] => { results := [.lit (.bool false)], args := [d1, d2, d3, d4, d5] }
  | _ => none }
def VolumeHoldsWrongFalsely : Prop := volumeHoldsRow.holds Tryz.pinned (OpenSpec.ofChange volumeHoldsWrong)

/-- 'sheaflaw24.VolumeNobody': WHATEVER THE INPUT: true; the input reads as it did. -/
def volumeNobodySpec : ChangeSpec := { name := "volumeNobody", fn := fun _ => fun
  | [d1, d2, d3] => { results := [.lit (.bool true)], args := [d1, d2, d3] }
  | _ => none }
def volumeNobodyRow : OpenClaim := { program := "ytdkimcnlhmhpgaagreat", sum := "7159c9ff127612fdccd28810607389852ed4ea133f43b94a2395718e30e1cfd3", func := "sheaf/sheaflaw24.VolumeNobody", spec := "volumeNobody", inPlace := ["internal/abi.NoEscape", "internal/bytealg.MakeNoZero", "internal/bytealg.abigen_runtime_cmpstring", "slices.overlaps[sheaf/api.Item]"], unfollowed := true, recurses := true, apart := false }
def VolumeNobodySaid : Prop := volumeNobodyRow.holds Tryz.pinned (OpenSpec.ofChange volumeNobodySpec)

/-- ITS FALSE NEIGHBOUR: 'it returns false'. Refute it at one input. -/
def volumeNobodyWrong : ChangeSpec := { name := "volumeNobody", fn := fun _ => fun
  | [d1, d2, d3] => { results := [.lit (.bool false)], args := [d1, d2, d3] }
  | _ => none }
def VolumeNobodyWrongFalsely : Prop := volumeNobodyRow.holds Tryz.pinned (OpenSpec.ofChange volumeNobodyWrong)

/-- 'sheaflaw24.VolumeMounts': WHATEVER THE INPUT: true; the input reads as it did. -/
def volumeMountsSpec : ChangeSpec := { name := "volumeMounts", fn := fun _ => fun
  | [d] => { results := [.lit (.bool true)], args := [d] }
  | _ => none }
def volumeMountsRow : OpenClaim := { program := "ytdkimcnlhmhpgaagreat", sum := "7159c9ff127612fdccd28810607389852ed4ea133f43b94a2395718e30e1cfd3", func := "sheaf/sheaflaw24.VolumeMounts", spec := "volumeMounts", inPlace := ["internal/abi.NoEscape", "internal/bytealg.MakeNoZero", "internal/bytealg.abigen_runtime_cmpstring", "slices.overlaps[sheaf/api.Item]"], unfollowed := true, recurses := true, apart := false }
def VolumeMountsSaid : Prop := volumeMountsRow.holds Tryz.pinned (OpenSpec.ofChange volumeMountsSpec)

/-- ITS FALSE NEIGHBOUR: 'it returns false'. Refute it at one input. -/
def volumeMountsWrong : ChangeSpec := { name := "volumeMounts", fn := fun _ => fun
  | [d] => { results := [.lit (.bool false)], args := [d] }
  | _ => none }
def VolumeMountsWrongFalsely : Prop := volumeMountsRow.holds Tryz.pinned (OpenSpec.ofChange volumeMountsWrong)

/-- 'sheaflaw24.VolumeFormats': WHATEVER THE INPUT: true; the input reads as it did. -/
def volumeFormatsSpec : ChangeSpec := { name := "volumeFormats", fn := fun _ => fun
  | [d1, d2, d3, d4] => { results := [.lit (.bool true)], args := [d1, d2, d3, d4] }
  | _ => none }
def volumeFormatsRow : OpenClaim := { program := "ytdkimcnlhmhpgaagreat", sum := "7159c9ff127612fdccd28810607389852ed4ea133f43b94a2395718e30e1cfd3", func := "sheaf/sheaflaw24.VolumeFormats", spec := "volumeFormats", inPlace := ["internal/abi.NoEscape", "internal/bytealg.MakeNoZero", "internal/bytealg.abigen_runtime_cmpstring", "slices.overlaps[sheaf/api.Item]"], unfollowed := true, recurses := true, apart := false }
def VolumeFormatsSaid : Prop := volumeFormatsRow.holds Tryz.pinned (OpenSpec.ofChange volumeFormatsSpec)

/-- ITS FALSE NEIGHBOUR: 'it returns false'. Refute it at one input. -/
def volumeFormatsWrong : ChangeSpec := { name := "volumeFormats", fn := fun _ => fun
  | [d1, d2, d3, d4] => { results := [.lit (.bool false)], args := [d1, d2, d3, d4] }
  | _ => none }
def VolumeFormatsWrongFalsely : Prop := volumeFormatsRow.holds Tryz.pinned (OpenSpec.ofChange volumeFormatsWrong)

/-- 'sheaflaw24.VolumeCrashes': WHATEVER THE INPUT: true; the input reads as it did. -/
def volumeCrashesSpec : ChangeSpec := { name := "volumeCrashes", fn := fun _ => fun
  | [d1, d2, d3, d4, d5, d6, d7] => { results := [.lit (.bool true)], args := [d1, d2, d3, d4, d5, d6, d7] }
  | _ => none }
def volumeCrashesRow : OpenClaim := { program := "ytdkimcnlhmhpgaagreat", sum := "7159c9ff127612fdccd28810607389852ed4ea133f43b94a2395718e30e1cfd3", func := "sheaf/sheaflaw24.VolumeCrashes", spec := "volumeCrashes", inPlace := ["internal/abi.NoEscape", "internal/bytealg.MakeNoZero", "internal/bytealg.abigen_runtime_cmpstring", "slices.overlaps[sheaf/api.Item]"], unfollowed := true, recurses := true, apart := false }
def VolumeCrashesSaid : Prop := volumeCrashesRow.holds Tryz.pinned (OpenSpec.ofChange volumeCrashesSpec)

/-- ITS FALSE NEIGHBOUR: 'it returns false'. Refute it at one input. -/
def volumeCrashesWrong : ChangeSpec := { name := "volumeCrashes", fn := fun _ => fun
  | [d1, d2, d3, d4, d5, d6, d7] => { results := [.lit (.bool false)], args := [d1, d2, d3, d4, d5, d6, d7] }
  | _ => none }
def VolumeCrashesWrongFalsely : Prop := volumeCrashesRow.holds Tryz.pinned (OpenSpec.ofChange volumeCrashesWrong)

/-- 'sheaflaw24.VolumePlays': WHATEVER THE INPUT: true; the input reads as it did. -/
def volumePlaysSpec : ChangeSpec := { name := "volumePlays", fn := fun _ => fun
  | [d1, d2, d3] => { results := [.lit (.bool true)], args := [d1, d2, d3] }
  | _ => none }
def volumePlaysRow : OpenClaim := { program := "ytdkimcnlhmhpgaagreat", sum := "7159c9ff127612fdccd28810607389852ed4ea133f43b94a2395718e30e1cfd3", func := "sheaf/sheaflaw24.VolumePlays", spec := "volumePlays", inPlace := ["internal/abi.NoEscape", "internal/bytealg.MakeNoZero", "internal/bytealg.abigen_runtime_cmpstring", "slices.overlaps[sheaf/api.Item]"], unfollowed := true, recurses := true, apart := false }
def VolumePlaysSaid : Prop := volumePlaysRow.holds Tryz.pinned (OpenSpec.ofChange volumePlaysSpec)

/-- ITS FALSE NEIGHBOUR: 'it returns false'. Refute it at one input. -/
def volumePlaysWrong : ChangeSpec := { name := "volumePlays", fn := fun _ => fun
  | [d1, d2, d3] => { results := [.lit (.bool false)], args := [d1, d2, d3] }
  | _ => none }
def VolumePlaysWrongFalsely : Prop := volumePlaysRow.holds Tryz.pinned (OpenSpec.ofChange volumePlaysWrong)

/- THE SECOND FORM. 'bulk': how many values and letters a reading holds, each counted each time it is reached (what is shared counts as often as it is met; a slice's spare places count too). A statement '..UptoSaid' is the law's where the arguments, and the package variables that the reading takes, are together of bulk at most 1048576: NARROWER than '..Said'. Prove '..Said' where nothing that the law and all that it calls make is longer than what came in: it says more and counts as full. Else prove '..UptoSaid'. A law counts once. -/
mutual
def uptoBulk {H : Type} : DataW H → Nat
  | .lit (.string bytes) => bytes.length + 1
  | .lit _ => 1
  | .nil => 1
  | .ptr d => uptoBulk d + 1
  | .slice elems spare => uptoBulkAll elems + uptoBulkAll spare + 1
  | .agg parts => uptoBulkAll parts + 1
  | .iface _ d => uptoBulk d + 1
  | .map entries => uptoBulkEntries entries + 1
  | .held _ => 1
def uptoBulkAll {H : Type} : List (DataW H) → Nat
  | [] => 0
  | d :: r => uptoBulk d + uptoBulkAll r
def uptoBulkEntries {H : Type} : List (Lit × DataW H) → Nat
  | [] => 0
  | x :: r => uptoBulkEntry x + uptoBulkEntries r
def uptoBulkEntry {H : Type} : Lit × DataW H → Nat
  | (.string bytes, d) => bytes.length + uptoBulk d + 1
  | (_, d) => uptoBulk d + 1
 end
def uptoSmall : (H : Type) → List (DataW H) → Bool := fun _ ds => decide (uptoBulkAll ds ≤ 1048576)
def OpenSpec.upto (s : _root_.Go.ChangeSpec) : _root_.Go.OpenSpec := { _root_.Go.OpenSpec.ofChange s with cond := some uptoSmall }

/-- 'sheaflaw24.VolumeHolds', WHERE WHAT IT READS IS OF BULK AT MOST 1048576: true; the input reads as it did. -/
def volumeHoldsUptoRow : OpenClaim := { program := "ytdkimcnlhmhpgaagreat", sum := "7159c9ff127612fdccd28810607389852ed4ea133f43b94a2395718e30e1cfd3", func := "sheaf/sheaflaw24.VolumeHolds", spec := "volumeHolds", inPlace := ["internal/abi.NoEscape", "internal/bytealg.MakeNoZero", "internal/bytealg.abigen_runtime_cmpstring", "slices.overlaps[sheaf/api.Item]"], unfollowed := true, recurses := true, apart := false, narrowed := true }
def VolumeHoldsUptoSaid : Prop := volumeHoldsUptoRow.holds Tryz.pinned (OpenSpec.upto volumeHoldsSpec)

/-- 'sheaflaw24.VolumeNobody', WHERE WHAT IT READS IS OF BULK AT MOST 1048576: true; the input reads as it did. -/
def volumeNobodyUptoRow : OpenClaim := { program := "ytdkimcnlhmhpgaagreat", sum := "7159c9ff127612fdccd28810607389852ed4ea133f43b94a2395718e30e1cfd3", func := "sheaf/sheaflaw24.VolumeNobody", spec := "volumeNobody", inPlace := ["internal/abi.NoEscape", "internal/bytealg.MakeNoZero", "internal/bytealg.abigen_runtime_cmpstring", "slices.overlaps[sheaf/api.Item]"], unfollowed := true, recurses := true, apart := false, narrowed := true }
def VolumeNobodyUptoSaid : Prop := volumeNobodyUptoRow.holds Tryz.pinned (OpenSpec.upto volumeNobodySpec)

/-- 'sheaflaw24.VolumeMounts', WHERE WHAT IT READS IS OF BULK AT MOST 1048576: true; the input reads as it did. -/
def volumeMountsUptoRow : OpenClaim := { program := "ytdkimcnlhmhpgaagreat", sum := "7159c9ff127612fdccd28810607389852ed4ea133f43b94a2395718e30e1cfd3", func := "sheaf/sheaflaw24.VolumeMounts", spec := "volumeMounts", inPlace := ["internal/abi.NoEscape", "internal/bytealg.MakeNoZero", "internal/bytealg.abigen_runtime_cmpstring", "slices.overlaps[sheaf/api.Item]"], unfollowed := true, recurses := true, apart := false, narrowed := true }
def VolumeMountsUptoSaid : Prop := volumeMountsUptoRow.holds Tryz.pinned (OpenSpec.upto volumeMountsSpec)

/-- 'sheaflaw24.VolumeFormats', WHERE WHAT IT READS IS OF BULK AT MOST 1048576: true; the input reads as it did. -/
def volumeFormatsUptoRow : OpenClaim := { program := "ytdkimcnlhmhpgaagreat", sum := "7159c9ff127612fdccd28810607389852ed4ea133f43b94a2395718e30e1cfd3", func := "sheaf/sheaflaw24.VolumeFormats", spec := "volumeFormats", inPlace := ["internal/abi.NoEscape", "internal/bytealg.MakeNoZero", "internal/bytealg.abigen_runtime_cmpstring", "slices.overlaps[sheaf/api.Item]"], unfollowed := true, recurses := true, apart := false, narrowed := true }
def VolumeFormatsUptoSaid : Prop := volumeFormatsUptoRow.holds Tryz.pinned (OpenSpec.upto volumeFormatsSpec)

/-- 'sheaflaw24.VolumeCrashes', WHERE WHAT IT READS IS OF BULK AT MOST 1048576: true; the input reads as it did. -/
def volumeCrashesUptoRow : OpenClaim := { program := "ytdkimcnlhmhpgaagreat", sum := "7159c9ff127612fdccd28810607389852ed4ea133f43b94a2395718e30e1cfd3", func := "sheaf/sheaflaw24.VolumeCrashes", spec := "volumeCrashes", inPlace := ["internal/abi.NoEscape", "internal/bytealg.MakeNoZero", "internal/bytealg.abigen_runtime_cmpstring", "slices.overlaps[sheaf/api.Item]"], unfollowed := true, recurses := true, apart := false, narrowed := true }
def VolumeCrashesUptoSaid : Prop := volumeCrashesUptoRow.holds Tryz.pinned (OpenSpec.upto volumeCrashesSpec)

/-- 'sheaflaw24.VolumePlays', WHERE WHAT IT READS IS OF BULK AT MOST 1048576: true; the input reads as it did. -/
def volumePlaysUptoRow : OpenClaim := { program := "ytdkimcnlhmhpgaagreat", sum := "7159c9ff127612fdccd28810607389852ed4ea133f43b94a2395718e30e1cfd3", func := "sheaf/sheaflaw24.VolumePlays", spec := "volumePlays", inPlace := ["internal/abi.NoEscape", "internal/bytealg.MakeNoZero", "internal/bytealg.abigen_runtime_cmpstring", "slices.overlaps[sheaf/api.Item]"], unfollowed := true, recurses := true, apart := false, narrowed := true }
def VolumePlaysUptoSaid : Prop := volumePlaysUptoRow.holds Tryz.pinned (OpenSpec.upto volumePlaysSpec)

end Rows
end Go.Proofs.YtdkimcnlhmhpgaaGreat
