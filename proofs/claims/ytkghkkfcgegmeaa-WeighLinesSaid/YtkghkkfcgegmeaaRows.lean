/-
  No cell of these rows narrows 'for every input' (looked for: loops, veiled, ifaces, maps, wideKeys, modest, calm, conditions, laid).
  DERIVED. THE GIVEN ROWS OF THIS SEAT. 11 by the template 'for every input the law returns true; each argument reads behind the call as it read before'; 0 by the template 'total and deterministic' (their statements: YtkghkkfcgegmeaaTotals.lean).
  GIVEN WITH THE SEED: the statements are not yours to turn. If you find one false, say at which input.
  Laid BY PROGRAM, IN A SANDBOX (cutbox-rows.mjs): the forced cells as the released guide's own fill.sh prints them over the translation 74a82c4d7754f235… (all of the seat's roots in one cut). By AI agents, Wed Nov 11 2026. No macro, syntax, notation, axiom, sorry.
-/
import Derived.Test.YtkghkkfcgegmeaaChecked
import GoSem.Claim
import GoSem.ClaimJoined
import GoSem.ClaimMapViews
import Derived.JoinedTies
import Derived.KernelRfl
namespace Go.Proofs.Ytkghkkfcgegmeaa
/- THE CELL 'sum', in the pinned program and in every row, IS THE sha256 OF THE DUMP (.gsa) THAT YtkghkkfcgegmeaaProg.lean LOADS. Nothing in Lean hashes anything: it is a label: what it is worth is what the hold of that sum in a sandbox is worth. -/
noncomputable def Try.pinned : Pinned := { name := "ytkghkkfcgegmeaa", sum := "74a82c4d7754f2353dcc636d7c8f73332aa4cd5521cebaf9def92f07afa0bcb5", checked := Try.checked }
namespace Rows
def none {H : Type} : Left H := { results := [], args := [] }

/-- 'sheaflaw04.WeighPlaces': WHATEVER THE INPUT: true; the input reads as it did. -/
def weighPlacesSpec : ChangeSpec := { name := "weighPlaces", fn := fun _ => fun
  | [d1, d2, d3] => { results := [.lit (.bool true)], args := [d1, d2, d3] }
  | _ => none }
def weighPlacesRow : OpenClaim := { program := "ytkghkkfcgegmeaa", sum := "74a82c4d7754f2353dcc636d7c8f73332aa4cd5521cebaf9def92f07afa0bcb5", func := "sheaf/sheaflaw04.WeighPlaces", spec := "weighPlaces", apart := false }
def WeighPlacesSaid : Prop := weighPlacesRow.holds Try.pinned (OpenSpec.ofChange weighPlacesSpec)

/-- ITS FALSE NEIGHBOUR: 'it returns false'. Refute it at one input. -/
def weighPlacesWrong : ChangeSpec := { name := "weighPlaces", fn := fun _ => fun
  | [d1, d2, d3] => { results := [.lit (.bool false)], args := [d1, d2, d3] }
  | _ => none }
def WeighPlacesWrongFalsely : Prop := weighPlacesRow.holds Try.pinned (OpenSpec.ofChange weighPlacesWrong)

/-- 'sheaflaw04.WeighTexts': WHATEVER THE INPUT: true; the input reads as it did. -/
def weighTextsSpec : ChangeSpec := { name := "weighTexts", fn := fun _ => fun
  | [d1, d2] => { results := [.lit (.bool true)], args := [d1, d2] }
  | _ => none }
def weighTextsRow : OpenClaim := { program := "ytkghkkfcgegmeaa", sum := "74a82c4d7754f2353dcc636d7c8f73332aa4cd5521cebaf9def92f07afa0bcb5", func := "sheaf/sheaflaw04.WeighTexts", spec := "weighTexts", inPlace := ["math.Float64bits"], apart := false }
def WeighTextsSaid : Prop := weighTextsRow.holds Try.pinned (OpenSpec.ofChange weighTextsSpec)

/-- ITS FALSE NEIGHBOUR: 'it returns false'. Refute it at one input. -/
def weighTextsWrong : ChangeSpec := { name := "weighTexts", fn := fun _ => fun
  | [d1, d2] => { results := [.lit (.bool false)], args := [d1, d2] }
  | _ => none }
def WeighTextsWrongFalsely : Prop := weighTextsRow.holds Try.pinned (OpenSpec.ofChange weighTextsWrong)

/-- 'sheaflaw04.WeighTurns': WHATEVER THE INPUT: true; the input reads as it did. -/
def weighTurnsSpec : ChangeSpec := { name := "weighTurns", fn := fun _ => fun
  | [d1, d2, d3] => { results := [.lit (.bool true)], args := [d1, d2, d3] }
  | _ => none }
def weighTurnsRow : OpenClaim := { program := "ytkghkkfcgegmeaa", sum := "74a82c4d7754f2353dcc636d7c8f73332aa4cd5521cebaf9def92f07afa0bcb5", func := "sheaf/sheaflaw04.WeighTurns", spec := "weighTurns", inPlace := ["math.Float64bits"], apart := false }
def WeighTurnsSaid : Prop := weighTurnsRow.holds Try.pinned (OpenSpec.ofChange weighTurnsSpec)

/-- ITS FALSE NEIGHBOUR: 'it returns false'. Refute it at one input. -/
def weighTurnsWrong : ChangeSpec := { name := "weighTurns", fn := fun _ => fun
  | [d1, d2, d3] => { results := [.lit (.bool false)], args := [d1, d2, d3] }
  | _ => none }
def WeighTurnsWrongFalsely : Prop := weighTurnsRow.holds Try.pinned (OpenSpec.ofChange weighTurnsWrong)

/-- 'sheaflaw34.PhaseBack': WHATEVER THE INPUT: true; the input reads as it did. -/
def phaseBackSpec : ChangeSpec := { name := "phaseBack", fn := fun _ => fun
  | [d] => { results := [.lit (.bool true)], args := [d] }
  | _ => none }
def phaseBackRow : OpenClaim := { program := "ytkghkkfcgegmeaa", sum := "74a82c4d7754f2353dcc636d7c8f73332aa4cd5521cebaf9def92f07afa0bcb5", func := "sheaf/sheaflaw34.PhaseBack", spec := "phaseBack", apart := false }
def PhaseBackSaid : Prop := phaseBackRow.holds Try.pinned (OpenSpec.ofChange phaseBackSpec)

/-- ITS FALSE NEIGHBOUR: 'it returns false'. Refute it at one input. -/
def phaseBackWrong : ChangeSpec := { name := "phaseBack", fn := fun _ => fun
  | [d] => { results := [.lit (.bool false)], args := [d] }
  | _ => none }
def PhaseBackWrongFalsely : Prop := phaseBackRow.holds Try.pinned (OpenSpec.ofChange phaseBackWrong)

/-- 'sheaflaw04.WeighParts': WHATEVER THE INPUT: true; the input reads as it did. -/
def weighPartsSpec : ChangeSpec := { name := "weighParts", fn := fun _ => fun
  | [d1, d2, d3] => { results := [.lit (.bool true)], args := [d1, d2, d3] }
  | _ => none }
def weighPartsRow : OpenClaim := { program := "ytkghkkfcgegmeaa", sum := "74a82c4d7754f2353dcc636d7c8f73332aa4cd5521cebaf9def92f07afa0bcb5", func := "sheaf/sheaflaw04.WeighParts", spec := "weighParts", inPlace := ["math.Float64bits"], apart := false }
def WeighPartsSaid : Prop := weighPartsRow.holds Try.pinned (OpenSpec.ofChange weighPartsSpec)

/-- ITS FALSE NEIGHBOUR: 'it returns false'. Refute it at one input. -/
def weighPartsWrong : ChangeSpec := { name := "weighParts", fn := fun _ => fun
  | [d1, d2, d3] => { results := [.lit (.bool false)], args := [d1, d2, d3] }
  | _ => none }
def WeighPartsWrongFalsely : Prop := weighPartsRow.holds Try.pinned (OpenSpec.ofChange weighPartsWrong)

/-- 'sheaflaw34.PhaseRows': WHATEVER THE INPUT: true; the input reads as it did. -/
def phaseRowsSpec : ChangeSpec := { name := "phaseRows", fn := fun _ => fun
  | [d] => { results := [.lit (.bool true)], args := [d] }
  | _ => none }
def phaseRowsRow : OpenClaim := { program := "ytkghkkfcgegmeaa", sum := "74a82c4d7754f2353dcc636d7c8f73332aa4cd5521cebaf9def92f07afa0bcb5", func := "sheaf/sheaflaw34.PhaseRows", spec := "phaseRows", inPlace := ["math.Float64bits"], apart := false }
def PhaseRowsSaid : Prop := phaseRowsRow.holds Try.pinned (OpenSpec.ofChange phaseRowsSpec)

/-- ITS FALSE NEIGHBOUR: 'it returns false'. Refute it at one input. -/
def phaseRowsWrong : ChangeSpec := { name := "phaseRows", fn := fun _ => fun
  | [d] => { results := [.lit (.bool false)], args := [d] }
  | _ => none }
def PhaseRowsWrongFalsely : Prop := phaseRowsRow.holds Try.pinned (OpenSpec.ofChange phaseRowsWrong)

/-- 'sheaflaw04.WeighScales': WHATEVER THE INPUT: true; the input reads as it did. -/
def weighScalesSpec : ChangeSpec := { name := "weighScales", fn := fun _ => fun
  | [d] => { results := [.lit (.bool true)], args := [d] }
  | _ => none }
def weighScalesRow : OpenClaim := { program := "ytkghkkfcgegmeaa", sum := "74a82c4d7754f2353dcc636d7c8f73332aa4cd5521cebaf9def92f07afa0bcb5", func := "sheaf/sheaflaw04.WeighScales", spec := "weighScales", apart := false }
def WeighScalesSaid : Prop := weighScalesRow.holds Try.pinned (OpenSpec.ofChange weighScalesSpec)

/-- ITS FALSE NEIGHBOUR: 'it returns false'. Refute it at one input. -/
def weighScalesWrong : ChangeSpec := { name := "weighScales", fn := fun _ => fun
  | [d] => { results := [.lit (.bool false)], args := [d] }
  | _ => none }
def WeighScalesWrongFalsely : Prop := weighScalesRow.holds Try.pinned (OpenSpec.ofChange weighScalesWrong)

/-- 'sheaflaw34.PhasePowers': WHATEVER THE INPUT: true; the input reads as it did. -/
def phasePowersSpec : ChangeSpec := { name := "phasePowers", fn := fun _ => fun
  | [d] => { results := [.lit (.bool true)], args := [d] }
  | _ => none }
def phasePowersRow : OpenClaim := { program := "ytkghkkfcgegmeaa", sum := "74a82c4d7754f2353dcc636d7c8f73332aa4cd5521cebaf9def92f07afa0bcb5", func := "sheaf/sheaflaw34.PhasePowers", spec := "phasePowers", apart := false }
def PhasePowersSaid : Prop := phasePowersRow.holds Try.pinned (OpenSpec.ofChange phasePowersSpec)

/-- ITS FALSE NEIGHBOUR: 'it returns false'. Refute it at one input. -/
def phasePowersWrong : ChangeSpec := { name := "phasePowers", fn := fun _ => fun
  | [d] => { results := [.lit (.bool false)], args := [d] }
  | _ => none }
def PhasePowersWrongFalsely : Prop := phasePowersRow.holds Try.pinned (OpenSpec.ofChange phasePowersWrong)

/-- 'sheaflaw34.PhaseMoves': WHATEVER THE INPUT: true; the input reads as it did. -/
def phaseMovesSpec : ChangeSpec := { name := "phaseMoves", fn := fun _ => fun
  | [d1, d2, d3] => { results := [.lit (.bool true)], args := [d1, d2, d3] }
  | _ => none }
def phaseMovesRow : OpenClaim := { program := "ytkghkkfcgegmeaa", sum := "74a82c4d7754f2353dcc636d7c8f73332aa4cd5521cebaf9def92f07afa0bcb5", func := "sheaf/sheaflaw34.PhaseMoves", spec := "phaseMoves", apart := false }
def PhaseMovesSaid : Prop := phaseMovesRow.holds Try.pinned (OpenSpec.ofChange phaseMovesSpec)

/-- ITS FALSE NEIGHBOUR: 'it returns false'. Refute it at one input. -/
def phaseMovesWrong : ChangeSpec := { name := "phaseMoves", fn := fun _ => fun
  | [d1, d2, d3] => { results := [.lit (.bool false)], args := [d1, d2, d3] }
  | _ => none }
def PhaseMovesWrongFalsely : Prop := phaseMovesRow.holds Try.pinned (OpenSpec.ofChange phaseMovesWrong)

/-- 'sheaflaw34.PhaseSums': WHATEVER THE INPUT: true; the input reads as it did. -/
def phaseSumsSpec : ChangeSpec := { name := "phaseSums", fn := fun _ => fun
  | [d1, d2, d3] => { results := [.lit (.bool true)], args := [d1, d2, d3] }
  | _ => none }
def phaseSumsRow : OpenClaim := { program := "ytkghkkfcgegmeaa", sum := "74a82c4d7754f2353dcc636d7c8f73332aa4cd5521cebaf9def92f07afa0bcb5", func := "sheaf/sheaflaw34.PhaseSums", spec := "phaseSums", inPlace := ["math.Float64bits"], apart := false }
def PhaseSumsSaid : Prop := phaseSumsRow.holds Try.pinned (OpenSpec.ofChange phaseSumsSpec)

/-- ITS FALSE NEIGHBOUR: 'it returns false'. Refute it at one input. -/
def phaseSumsWrong : ChangeSpec := { name := "phaseSums", fn := fun _ => fun
  | [d1, d2, d3] => { results := [.lit (.bool false)], args := [d1, d2, d3] }
  | _ => none }
def PhaseSumsWrongFalsely : Prop := phaseSumsRow.holds Try.pinned (OpenSpec.ofChange phaseSumsWrong)

/-- 'sheaflaw04.WeighLines': WHATEVER THE INPUT: true; the input reads as it did. -/
def weighLinesSpec : ChangeSpec := { name := "weighLines", fn := fun _ => fun
  | [d1, d2] => { results := [.lit (.bool true)], args := [d1, d2] }
  | _ => none }
def weighLinesRow : OpenClaim := { program := "ytkghkkfcgegmeaa", sum := "74a82c4d7754f2353dcc636d7c8f73332aa4cd5521cebaf9def92f07afa0bcb5", func := "sheaf/sheaflaw04.WeighLines", spec := "weighLines", inPlace := ["math.Float64bits"], apart := false }
def WeighLinesSaid : Prop := weighLinesRow.holds Try.pinned (OpenSpec.ofChange weighLinesSpec)

/-- ITS FALSE NEIGHBOUR: 'it returns false'. Refute it at one input. -/
def weighLinesWrong : ChangeSpec := { name := "weighLines", fn := fun _ => fun
  | [d1, d2] => { results := [.lit (.bool false)], args := [d1, d2] }
  | _ => none }
def WeighLinesWrongFalsely : Prop := weighLinesRow.holds Try.pinned (OpenSpec.ofChange weighLinesWrong)

/- THE SECOND FORM. 'bulk': how many values and letters a reading holds, each counted each time it is reached (what is shared counts as often as it is met; a slice's spare places count too). A statement '..UptoSaid' is the law's where the arguments, and the package variables that the reading takes, are together of bulk at most 1048576: NARROWER than '..Said'. Prove '..Said' where nothing that the law and all that it calls make is longer than what came in: it says more and counts as full. Else prove '..UptoSaid'. A law counts once. -/
mutual
def uptoBulk {H : Type} : DataW H → Nat
  | .lit (.string bytes) => bytes.length + 1
  | .lit _ => 1
  | .nil => 1
  | .ptr d => uptoBulk d + 1
  | .slice elems spare => uptoBulkAll elems + uptoBulkAll spare + 1
  | .agg parts => uptoBulkAll parts + 1
  | .iface _ d => uptoBulk d + 1
  | .map entries => uptoBulkEntries entries + 1
  | .held _ => 1
def uptoBulkAll {H : Type} : List (DataW H) → Nat
  | [] => 0
  | d :: r => uptoBulk d + uptoBulkAll r
def uptoBulkEntries {H : Type} : List (Lit × DataW H) → Nat
  | [] => 0
  | x :: r => uptoBulkEntry x + uptoBulkEntries r
def uptoBulkEntry {H : Type} : Lit × DataW H → Nat
  | (.string bytes, d) => bytes.length + uptoBulk d + 1
  | (_, d) => uptoBulk d + 1
 end
def uptoSmall : (H : Type) → List (DataW H) → Bool := fun _ ds => decide (uptoBulkAll ds ≤ 1048576)
def OpenSpec.upto (s : _root_.Go.ChangeSpec) : _root_.Go.OpenSpec := { _root_.Go.OpenSpec.ofChange s with cond := some uptoSmall }

/-- 'sheaflaw04.WeighPlaces', WHERE WHAT IT READS IS OF BULK AT MOST 1048576: true; the input reads as it did. -/
def weighPlacesUptoRow : OpenClaim := { program := "ytkghkkfcgegmeaa", sum := "74a82c4d7754f2353dcc636d7c8f73332aa4cd5521cebaf9def92f07afa0bcb5", func := "sheaf/sheaflaw04.WeighPlaces", spec := "weighPlaces", apart := false, narrowed := true }
def WeighPlacesUptoSaid : Prop := weighPlacesUptoRow.holds Try.pinned (OpenSpec.upto weighPlacesSpec)

/-- 'sheaflaw04.WeighTexts', WHERE WHAT IT READS IS OF BULK AT MOST 1048576: true; the input reads as it did. -/
def weighTextsUptoRow : OpenClaim := { program := "ytkghkkfcgegmeaa", sum := "74a82c4d7754f2353dcc636d7c8f73332aa4cd5521cebaf9def92f07afa0bcb5", func := "sheaf/sheaflaw04.WeighTexts", spec := "weighTexts", inPlace := ["math.Float64bits"], apart := false, narrowed := true }
def WeighTextsUptoSaid : Prop := weighTextsUptoRow.holds Try.pinned (OpenSpec.upto weighTextsSpec)

/-- 'sheaflaw04.WeighTurns', WHERE WHAT IT READS IS OF BULK AT MOST 1048576: true; the input reads as it did. -/
def weighTurnsUptoRow : OpenClaim := { program := "ytkghkkfcgegmeaa", sum := "74a82c4d7754f2353dcc636d7c8f73332aa4cd5521cebaf9def92f07afa0bcb5", func := "sheaf/sheaflaw04.WeighTurns", spec := "weighTurns", inPlace := ["math.Float64bits"], apart := false, narrowed := true }
def WeighTurnsUptoSaid : Prop := weighTurnsUptoRow.holds Try.pinned (OpenSpec.upto weighTurnsSpec)

/-- 'sheaflaw34.PhaseBack', WHERE WHAT IT READS IS OF BULK AT MOST 1048576: true; the input reads as it did. -/
def phaseBackUptoRow : OpenClaim := { program := "ytkghkkfcgegmeaa", sum := "74a82c4d7754f2353dcc636d7c8f73332aa4cd5521cebaf9def92f07afa0bcb5", func := "sheaf/sheaflaw34.PhaseBack", spec := "phaseBack", apart := false, narrowed := true }
def PhaseBackUptoSaid : Prop := phaseBackUptoRow.holds Try.pinned (OpenSpec.upto phaseBackSpec)

/-- 'sheaflaw04.WeighParts', WHERE WHAT IT READS IS OF BULK AT MOST 1048576: true; the input reads as it did. -/
def weighPartsUptoRow : OpenClaim := { program := "ytkghkkfcgegmeaa", sum := "74a82c4d7754f2353dcc636d7c8f73332aa4cd5521cebaf9def92f07afa0bcb5", func := "sheaf/sheaflaw04.WeighParts", spec := "weighParts", inPlace := ["math.Float64bits"], apart := false, narrowed := true }
def WeighPartsUptoSaid : Prop := weighPartsUptoRow.holds Try.pinned (OpenSpec.upto weighPartsSpec)

/-- 'sheaflaw34.PhaseRows', WHERE WHAT IT READS IS OF BULK AT MOST 1048576: true; the input reads as it did. -/
def phaseRowsUptoRow : OpenClaim := { program := "ytkghkkfcgegmeaa", sum := "74a82c4d7754f2353dcc636d7c8f73332aa4cd5521cebaf9def92f07afa0bcb5", func := "sheaf/sheaflaw34.PhaseRows", spec := "phaseRows", inPlace := ["math.Float64bits"], apart := false, narrowed := true }
def PhaseRowsUptoSaid : Prop := phaseRowsUptoRow.holds Try.pinned (OpenSpec.upto phaseRowsSpec)

/-- 'sheaflaw04.WeighScales', WHERE WHAT IT READS IS OF BULK AT MOST 1048576: true; the input reads as it did. -/
def weighScalesUptoRow : OpenClaim := { program := "ytkghkkfcgegmeaa", sum := "74a82c4d7754f2353dcc636d7c8f73332aa4cd5521cebaf9def92f07afa0bcb5", func := "sheaf/sheaflaw04.WeighScales", spec := "weighScales", apart := false, narrowed := true }
def WeighScalesUptoSaid : Prop := weighScalesUptoRow.holds Try.pinned (OpenSpec.upto weighScalesSpec)

/-- 'sheaflaw34.PhasePowers', WHERE WHAT IT READS IS OF BULK AT MOST 1048576: true; the input reads as it did. -/
def phasePowersUptoRow : OpenClaim := { program := "ytkghkkfcgegmeaa", sum := "74a82c4d7754f2353dcc636d7c8f73332aa4cd5521cebaf9def92f07afa0bcb5", func := "sheaf/sheaflaw34.PhasePowers", spec := "phasePowers", apart := false, narrowed := true }
def PhasePowersUptoSaid : Prop := phasePowersUptoRow.holds Try.pinned (OpenSpec.upto phasePowersSpec)

/-- 'sheaflaw34.PhaseMoves', WHERE WHAT IT READS IS OF BULK AT MOST 1048576: true; the input reads as it did. -/
def phaseMovesUptoRow : OpenClaim := { program := "ytkghkkfcgegmeaa", sum := "74a82c4d7754f2353dcc636d7c8f73332aa4cd5521cebaf9def92f07afa0bcb5", func := "sheaf/sheaflaw34.PhaseMoves", spec := "phaseMoves", apart := false, narrowed := true }
def PhaseMovesUptoSaid : Prop := phaseMovesUptoRow.holds Try.pinned (OpenSpec.upto phaseMovesSpec)

/-- 'sheaflaw34.PhaseSums', WHERE WHAT IT READS IS OF BULK AT MOST 1048576: true; the input reads as it did. -/
def phaseSumsUptoRow : OpenClaim := { program := "ytkghkkfcgegmeaa", sum := "74a82c4d7754f2353dcc636d7c8f73332aa4cd5521cebaf9def92f07afa0bcb5", func := "sheaf/sheaflaw34.PhaseSums", spec := "phaseSums", inPlace := ["math.Float64bits"], apart := false, narrowed := true }
def PhaseSumsUptoSaid : Prop := phaseSumsUptoRow.holds Try.pinned (OpenSpec.upto phaseSumsSpec)

/-- 'sheaflaw04.WeighLines', WHERE WHAT IT READS IS OF BULK AT MOST 1048576: true; the input reads as it did. -/
def weighLinesUptoRow : OpenClaim := { program := "ytkghkkfcgegmeaa", sum := "74a82c4d7754f2353dcc636d7c8f73332aa4cd5521cebaf9def92f07afa0bcb5", func := "sheaf/sheaflaw04.WeighLines", spec := "weighLines", inPlace := ["math.Float64bits"], apart := false, narrowed := true }
def WeighLinesUptoSaid : Prop := weighLinesUptoRow.holds Try.pinned (OpenSpec.upto weighLinesSpec)

end Rows
end Go.Proofs.Ytkghkkfcgegmeaa
