/-
  No cell of these rows narrows 'for every input' (looked for: loops, veiled, ifaces, maps, wideKeys, modest, calm, conditions, laid).
  DERIVED. THE GIVEN ROWS OF THIS SEAT. 22 by the template 'for every input the law returns true; each argument reads behind the call as it read before'; 0 by the template 'total and deterministic' (their statements: YtbppajenihjfhaaTotals.lean).
  GIVEN WITH THE SEED: the statements are not yours to turn. If you find one false, say at which input.
  Laid BY PROGRAM, IN A SANDBOX (cutbox-rows.mjs): the forced cells as the released guide's own fill.sh prints them over the translation fc138f0c368326bb… (all of the seat's roots in one cut). By AI agents, Wed Nov 11 2026. No macro, syntax, notation, axiom, sorry.
-/
import Derived.Test.YtbppajenihjfhaaChecked
import GoSem.Claim
import GoSem.ClaimJoined
import GoSem.ClaimMapViews
import Derived.JoinedTies
import Derived.KernelRfl
namespace Go.Proofs.Ytbppajenihjfhaa
/- THE CELL 'sum', in the pinned program and in every row, IS THE sha256 OF THE DUMP (.gsa) THAT YtbppajenihjfhaaProg.lean LOADS. Nothing in Lean hashes anything: it is a label: what it is worth is what the hold of that sum in a sandbox is worth. -/
noncomputable def Try.pinned : Pinned := { name := "ytbppajenihjfhaa", sum := "fc138f0c368326bbd18af89e2ad58ebc4df4b5302cbdda5fe790551f605623f1", checked := Try.checked }
namespace Rows
def none {H : Type} : Left H := { results := [], args := [] }

/-- 'soundpostlaw12.GesturesSpec': WHATEVER THE INPUT: true; the input reads as it did. -/
def gesturesSpecSpec : ChangeSpec := { name := "gesturesSpec", fn := fun _ => fun
  | [d1, d2, d3] => { results := [.lit (.bool true)], args := [d1, d2, d3] }
  | _ => none }
def gesturesSpecRow : OpenClaim := { program := "ytbppajenihjfhaa", sum := "fc138f0c368326bbd18af89e2ad58ebc4df4b5302cbdda5fe790551f605623f1", func := "soundpost/soundpostlaw12.GesturesSpec", spec := "gesturesSpec", unfollowed := true, recurses := true, apart := false }
def GesturesSpecSaid : Prop := gesturesSpecRow.holds Try.pinned (OpenSpec.ofChange gesturesSpecSpec)

/-- ITS FALSE NEIGHBOUR: 'it returns false'. Refute it at one input. -/
def gesturesSpecWrong : ChangeSpec := { name := "gesturesSpec", fn := fun _ => fun
  | [d1, d2, d3] => { results := [.lit (.bool false)], args := [d1, d2, d3] }
  | _ => none }
def GesturesSpecWrongFalsely : Prop := gesturesSpecRow.holds Try.pinned (OpenSpec.ofChange gesturesSpecWrong)

/-- 'soundpostlaw12.GesturesValuesSpec': WHATEVER THE INPUT: true; the input reads as it did. -/
def gesturesValuesSpecSpec : ChangeSpec := { name := "gesturesValuesSpec", fn := fun _ => fun
  | [d1, d2, d3] => { results := [.lit (.bool true)], args := [d1, d2, d3] }
  | _ => none }
def gesturesValuesSpecRow : OpenClaim := { program := "ytbppajenihjfhaa", sum := "fc138f0c368326bbd18af89e2ad58ebc4df4b5302cbdda5fe790551f605623f1", func := "soundpost/soundpostlaw12.GesturesValuesSpec", spec := "gesturesValuesSpec", unfollowed := true, recurses := true, apart := false }
def GesturesValuesSpecSaid : Prop := gesturesValuesSpecRow.holds Try.pinned (OpenSpec.ofChange gesturesValuesSpecSpec)

/-- ITS FALSE NEIGHBOUR: 'it returns false'. Refute it at one input. -/
def gesturesValuesSpecWrong : ChangeSpec := { name := "gesturesValuesSpec", fn := fun _ => fun
  | [d1, d2, d3] => { results := [.lit (.bool false)], args := [d1, d2, d3] }
  | _ => none }
def GesturesValuesSpecWrongFalsely : Prop := gesturesValuesSpecRow.holds Try.pinned (OpenSpec.ofChange gesturesValuesSpecWrong)

/-- 'soundpostlaw12.GesturesDivide': WHATEVER THE INPUT: true; the input reads as it did. -/
def gesturesDivideSpec : ChangeSpec := { name := "gesturesDivide", fn := fun _ => fun
  | [d1, d2, d3, d4] => { results := [.lit (.bool true)], args := [d1, d2, d3, d4] }
  | _ => none }
def gesturesDivideRow : OpenClaim := { program := "ytbppajenihjfhaa", sum := "fc138f0c368326bbd18af89e2ad58ebc4df4b5302cbdda5fe790551f605623f1", func := "soundpost/soundpostlaw12.GesturesDivide", spec := "gesturesDivide", unfollowed := true, recurses := true, apart := false }
def GesturesDivideSaid : Prop := gesturesDivideRow.holds Try.pinned (OpenSpec.ofChange gesturesDivideSpec)

/-- ITS FALSE NEIGHBOUR: 'it returns false'. Refute it at one input. -/
def gesturesDivideWrong : ChangeSpec := { name := "gesturesDivide", fn := fun _ => fun
  | [d1, d2, d3, d4] => { results := [.lit (.bool false)], args := [d1, d2, d3, d4] }
  | _ => none }
def GesturesDivideWrongFalsely : Prop := gesturesDivideRow.holds Try.pinned (OpenSpec.ofChange gesturesDivideWrong)

/-- 'soundpostlaw12.GesturesCover': WHATEVER THE INPUT: true; the input reads as it did. -/
def gesturesCoverSpec : ChangeSpec := { name := "gesturesCover", fn := fun _ => fun
  | [d1, d2, d3, d4] => { results := [.lit (.bool true)], args := [d1, d2, d3, d4] }
  | _ => none }
def gesturesCoverRow : OpenClaim := { program := "ytbppajenihjfhaa", sum := "fc138f0c368326bbd18af89e2ad58ebc4df4b5302cbdda5fe790551f605623f1", func := "soundpost/soundpostlaw12.GesturesCover", spec := "gesturesCover", unfollowed := true, recurses := true, apart := false }
def GesturesCoverSaid : Prop := gesturesCoverRow.holds Try.pinned (OpenSpec.ofChange gesturesCoverSpec)

/-- ITS FALSE NEIGHBOUR: 'it returns false'. Refute it at one input. -/
def gesturesCoverWrong : ChangeSpec := { name := "gesturesCover", fn := fun _ => fun
  | [d1, d2, d3, d4] => { results := [.lit (.bool false)], args := [d1, d2, d3, d4] }
  | _ => none }
def GesturesCoverWrongFalsely : Prop := gesturesCoverRow.holds Try.pinned (OpenSpec.ofChange gesturesCoverWrong)

/-- 'soundpostlaw12.GesturesTrim': WHATEVER THE INPUT: true; the input reads as it did. -/
def gesturesTrimSpec : ChangeSpec := { name := "gesturesTrim", fn := fun _ => fun
  | [d1, d2, d3, d4, d5, d6] => { results := [.lit (.bool true)], args := [d1, d2, d3, d4, d5, d6] }
  | _ => none }
def gesturesTrimRow : OpenClaim := { program := "ytbppajenihjfhaa", sum := "fc138f0c368326bbd18af89e2ad58ebc4df4b5302cbdda5fe790551f605623f1", func := "soundpost/soundpostlaw12.GesturesTrim", spec := "gesturesTrim", unfollowed := true, recurses := true, apart := false }
def GesturesTrimSaid : Prop := gesturesTrimRow.holds Try.pinned (OpenSpec.ofChange gesturesTrimSpec)

/-- ITS FALSE NEIGHBOUR: 'it returns false'. Refute it at one input. -/
def gesturesTrimWrong : ChangeSpec := { name := "gesturesTrim", fn := fun _ => fun
  | [d1, d2, d3, d4, d5, d6] => { results := [.lit (.bool false)], args := [d1, d2, d3, d4, d5, d6] }
  | _ => none }
def GesturesTrimWrongFalsely : Prop := gesturesTrimRow.holds Try.pinned (OpenSpec.ofChange gesturesTrimWrong)

/-- 'soundpostlaw12.GesturesHeld': WHATEVER THE INPUT: true; the input reads as it did. -/
def gesturesHeldSpec : ChangeSpec := { name := "gesturesHeld", fn := fun _ => fun
  | [d1, d2, d3] => { results := [.lit (.bool true)], args := [d1, d2, d3] }
  | _ => none }
def gesturesHeldRow : OpenClaim := { program := "ytbppajenihjfhaa", sum := "fc138f0c368326bbd18af89e2ad58ebc4df4b5302cbdda5fe790551f605623f1", func := "soundpost/soundpostlaw12.GesturesHeld", spec := "gesturesHeld", unfollowed := true, recurses := true, apart := false }
def GesturesHeldSaid : Prop := gesturesHeldRow.holds Try.pinned (OpenSpec.ofChange gesturesHeldSpec)

/-- ITS FALSE NEIGHBOUR: 'it returns false'. Refute it at one input. -/
def gesturesHeldWrong : ChangeSpec := { name := "gesturesHeld", fn := fun _ => fun
  | [d1, d2, d3] => { results := [.lit (.bool false)], args := [d1, d2, d3] }
  | _ => none }
def GesturesHeldWrongFalsely : Prop := gesturesHeldRow.holds Try.pinned (OpenSpec.ofChange gesturesHeldWrong)

/-- 'soundpostlaw12.GesturesEach': WHATEVER THE INPUT: true; the input reads as it did. -/
def gesturesEachSpec : ChangeSpec := { name := "gesturesEach", fn := fun _ => fun
  | [d1, d2, d3] => { results := [.lit (.bool true)], args := [d1, d2, d3] }
  | _ => none }
def gesturesEachRow : OpenClaim := { program := "ytbppajenihjfhaa", sum := "fc138f0c368326bbd18af89e2ad58ebc4df4b5302cbdda5fe790551f605623f1", func := "soundpost/soundpostlaw12.GesturesEach", spec := "gesturesEach", unfollowed := true, recurses := true, apart := false }
def GesturesEachSaid : Prop := gesturesEachRow.holds Try.pinned (OpenSpec.ofChange gesturesEachSpec)

/-- ITS FALSE NEIGHBOUR: 'it returns false'. Refute it at one input. -/
def gesturesEachWrong : ChangeSpec := { name := "gesturesEach", fn := fun _ => fun
  | [d1, d2, d3] => { results := [.lit (.bool false)], args := [d1, d2, d3] }
  | _ => none }
def GesturesEachWrongFalsely : Prop := gesturesEachRow.holds Try.pinned (OpenSpec.ofChange gesturesEachWrong)

/-- 'soundpostlaw09.TempoSampleSpec': WHATEVER THE INPUT: true; the input reads as it did. -/
def tempoSampleSpecSpec : ChangeSpec := { name := "tempoSampleSpec", fn := fun _ => fun
  | [d1, d2] => { results := [.lit (.bool true)], args := [d1, d2] }
  | _ => none }
def tempoSampleSpecRow : OpenClaim := { program := "ytbppajenihjfhaa", sum := "fc138f0c368326bbd18af89e2ad58ebc4df4b5302cbdda5fe790551f605623f1", func := "soundpost/soundpostlaw09.TempoSampleSpec", spec := "tempoSampleSpec", inPlace := ["slices.overlaps[soundpost/api.Tempo]"], unfollowed := true, recurses := true, apart := false }
def TempoSampleSpecSaid : Prop := tempoSampleSpecRow.holds Try.pinned (OpenSpec.ofChange tempoSampleSpecSpec)

/-- ITS FALSE NEIGHBOUR: 'it returns false'. Refute it at one input. -/
def tempoSampleSpecWrong : ChangeSpec := { name := "tempoSampleSpec", fn := fun _ => fun
  | [d1, d2] => { results := [.lit (.bool false)], args := [d1, d2] }
  | _ => none }
def TempoSampleSpecWrongFalsely : Prop := tempoSampleSpecRow.holds Try.pinned (OpenSpec.ofChange tempoSampleSpecWrong)

/-- 'soundpostlaw09.TempoTickSpec': WHATEVER THE INPUT: true; the input reads as it did. -/
def tempoTickSpecSpec : ChangeSpec := { name := "tempoTickSpec", fn := fun _ => fun
  | [d1, d2] => { results := [.lit (.bool true)], args := [d1, d2] }
  | _ => none }
def tempoTickSpecRow : OpenClaim := { program := "ytbppajenihjfhaa", sum := "fc138f0c368326bbd18af89e2ad58ebc4df4b5302cbdda5fe790551f605623f1", func := "soundpost/soundpostlaw09.TempoTickSpec", spec := "tempoTickSpec", inPlace := ["slices.overlaps[soundpost/api.Tempo]"], unfollowed := true, recurses := true, apart := false }
def TempoTickSpecSaid : Prop := tempoTickSpecRow.holds Try.pinned (OpenSpec.ofChange tempoTickSpecSpec)

/-- ITS FALSE NEIGHBOUR: 'it returns false'. Refute it at one input. -/
def tempoTickSpecWrong : ChangeSpec := { name := "tempoTickSpec", fn := fun _ => fun
  | [d1, d2] => { results := [.lit (.bool false)], args := [d1, d2] }
  | _ => none }
def TempoTickSpecWrongFalsely : Prop := tempoTickSpecRow.holds Try.pinned (OpenSpec.ofChange tempoTickSpecWrong)

/-- 'soundpostlaw09.TempoInsertSpec': WHATEVER THE INPUT: true; the input reads as it did. -/
def tempoInsertSpecSpec : ChangeSpec := { name := "tempoInsertSpec", fn := fun _ => fun
  | [d1, d2] => { results := [.lit (.bool true)], args := [d1, d2] }
  | _ => none }
def tempoInsertSpecRow : OpenClaim := { program := "ytbppajenihjfhaa", sum := "fc138f0c368326bbd18af89e2ad58ebc4df4b5302cbdda5fe790551f605623f1", func := "soundpost/soundpostlaw09.TempoInsertSpec", spec := "tempoInsertSpec", inPlace := ["slices.overlaps[soundpost/api.Tempo]"], unfollowed := true, recurses := true, apart := false }
def TempoInsertSpecSaid : Prop := tempoInsertSpecRow.holds Try.pinned (OpenSpec.ofChange tempoInsertSpecSpec)

/-- ITS FALSE NEIGHBOUR: 'it returns false'. Refute it at one input. -/
def tempoInsertSpecWrong : ChangeSpec := { name := "tempoInsertSpec", fn := fun _ => fun
  | [d1, d2] => { results := [.lit (.bool false)], args := [d1, d2] }
  | _ => none }
def TempoInsertSpecWrongFalsely : Prop := tempoInsertSpecRow.holds Try.pinned (OpenSpec.ofChange tempoInsertSpecWrong)

/-- 'soundpostlaw09.TempoInverse': WHATEVER THE INPUT: true; the input reads as it did. -/
def tempoInverseSpec : ChangeSpec := { name := "tempoInverse", fn := fun _ => fun
  | [d1, d2, d3] => { results := [.lit (.bool true)], args := [d1, d2, d3] }
  | _ => none }
def tempoInverseRow : OpenClaim := { program := "ytbppajenihjfhaa", sum := "fc138f0c368326bbd18af89e2ad58ebc4df4b5302cbdda5fe790551f605623f1", func := "soundpost/soundpostlaw09.TempoInverse", spec := "tempoInverse", inPlace := ["slices.overlaps[soundpost/api.Tempo]"], unfollowed := true, recurses := true, apart := false }
def TempoInverseSaid : Prop := tempoInverseRow.holds Try.pinned (OpenSpec.ofChange tempoInverseSpec)

/-- ITS FALSE NEIGHBOUR: 'it returns false'. Refute it at one input. -/
def tempoInverseWrong : ChangeSpec := { name := "tempoInverse", fn := fun _ => fun
  | [d1, d2, d3] => { results := [.lit (.bool false)], args := [d1, d2, d3] }
  | _ => none }
def TempoInverseWrongFalsely : Prop := tempoInverseRow.holds Try.pinned (OpenSpec.ofChange tempoInverseWrong)

/-- 'soundpostlaw09.TempoMonotone': WHATEVER THE INPUT: true; the input reads as it did. -/
def tempoMonotoneSpec : ChangeSpec := { name := "tempoMonotone", fn := fun _ => fun
  | [d1, d2, d3] => { results := [.lit (.bool true)], args := [d1, d2, d3] }
  | _ => none }
def tempoMonotoneRow : OpenClaim := { program := "ytbppajenihjfhaa", sum := "fc138f0c368326bbd18af89e2ad58ebc4df4b5302cbdda5fe790551f605623f1", func := "soundpost/soundpostlaw09.TempoMonotone", spec := "tempoMonotone", inPlace := ["slices.overlaps[soundpost/api.Tempo]"], unfollowed := true, recurses := true, apart := false }
def TempoMonotoneSaid : Prop := tempoMonotoneRow.holds Try.pinned (OpenSpec.ofChange tempoMonotoneSpec)

/-- ITS FALSE NEIGHBOUR: 'it returns false'. Refute it at one input. -/
def tempoMonotoneWrong : ChangeSpec := { name := "tempoMonotone", fn := fun _ => fun
  | [d1, d2, d3] => { results := [.lit (.bool false)], args := [d1, d2, d3] }
  | _ => none }
def TempoMonotoneWrongFalsely : Prop := tempoMonotoneRow.holds Try.pinned (OpenSpec.ofChange tempoMonotoneWrong)

/-- 'soundpostlaw09.TempoInserted': WHATEVER THE INPUT: true; the input reads as it did. -/
def tempoInsertedSpec : ChangeSpec := { name := "tempoInserted", fn := fun _ => fun
  | [d1, d2, d3] => { results := [.lit (.bool true)], args := [d1, d2, d3] }
  | _ => none }
def tempoInsertedRow : OpenClaim := { program := "ytbppajenihjfhaa", sum := "fc138f0c368326bbd18af89e2ad58ebc4df4b5302cbdda5fe790551f605623f1", func := "soundpost/soundpostlaw09.TempoInserted", spec := "tempoInserted", inPlace := ["slices.overlaps[soundpost/api.Tempo]"], unfollowed := true, recurses := true, apart := false }
def TempoInsertedSaid : Prop := tempoInsertedRow.holds Try.pinned (OpenSpec.ofChange tempoInsertedSpec)

/-- ITS FALSE NEIGHBOUR: 'it returns false'. Refute it at one input. -/
def tempoInsertedWrong : ChangeSpec := { name := "tempoInserted", fn := fun _ => fun
  | [d1, d2, d3] => { results := [.lit (.bool false)], args := [d1, d2, d3] }
  | _ => none }
def TempoInsertedWrongFalsely : Prop := tempoInsertedRow.holds Try.pinned (OpenSpec.ofChange tempoInsertedWrong)

/-- 'soundpostlaw09.TempoSplit': WHATEVER THE INPUT: true; the input reads as it did. -/
def tempoSplitSpec : ChangeSpec := { name := "tempoSplit", fn := fun _ => fun
  | [d1, d2, d3] => { results := [.lit (.bool true)], args := [d1, d2, d3] }
  | _ => none }
def tempoSplitRow : OpenClaim := { program := "ytbppajenihjfhaa", sum := "fc138f0c368326bbd18af89e2ad58ebc4df4b5302cbdda5fe790551f605623f1", func := "soundpost/soundpostlaw09.TempoSplit", spec := "tempoSplit", inPlace := ["slices.overlaps[soundpost/api.Tempo]"], unfollowed := true, recurses := true, apart := false }
def TempoSplitSaid : Prop := tempoSplitRow.holds Try.pinned (OpenSpec.ofChange tempoSplitSpec)

/-- ITS FALSE NEIGHBOUR: 'it returns false'. Refute it at one input. -/
def tempoSplitWrong : ChangeSpec := { name := "tempoSplit", fn := fun _ => fun
  | [d1, d2, d3] => { results := [.lit (.bool false)], args := [d1, d2, d3] }
  | _ => none }
def TempoSplitWrongFalsely : Prop := tempoSplitRow.holds Try.pinned (OpenSpec.ofChange tempoSplitWrong)

/-- 'soundpostlaw11.CurvesValueSpec': WHATEVER THE INPUT: true; the input reads as it did. -/
def curvesValueSpecSpec : ChangeSpec := { name := "curvesValueSpec", fn := fun _ => fun
  | [d1, d2] => { results := [.lit (.bool true)], args := [d1, d2] }
  | _ => none }
def curvesValueSpecRow : OpenClaim := { program := "ytbppajenihjfhaa", sum := "fc138f0c368326bbd18af89e2ad58ebc4df4b5302cbdda5fe790551f605623f1", func := "soundpost/soundpostlaw11.CurvesValueSpec", spec := "curvesValueSpec", unfollowed := true, recurses := true, apart := false }
def CurvesValueSpecSaid : Prop := curvesValueSpecRow.holds Try.pinned (OpenSpec.ofChange curvesValueSpecSpec)

/-- ITS FALSE NEIGHBOUR: 'it returns false'. Refute it at one input. -/
def curvesValueSpecWrong : ChangeSpec := { name := "curvesValueSpec", fn := fun _ => fun
  | [d1, d2] => { results := [.lit (.bool false)], args := [d1, d2] }
  | _ => none }
def CurvesValueSpecWrongFalsely : Prop := curvesValueSpecRow.holds Try.pinned (OpenSpec.ofChange curvesValueSpecWrong)

/-- 'soundpostlaw11.CurvesValuesSpec': WHATEVER THE INPUT: true; the input reads as it did. -/
def curvesValuesSpecSpec : ChangeSpec := { name := "curvesValuesSpec", fn := fun _ => fun
  | [d1, d2, d3] => { results := [.lit (.bool true)], args := [d1, d2, d3] }
  | _ => none }
def curvesValuesSpecRow : OpenClaim := { program := "ytbppajenihjfhaa", sum := "fc138f0c368326bbd18af89e2ad58ebc4df4b5302cbdda5fe790551f605623f1", func := "soundpost/soundpostlaw11.CurvesValuesSpec", spec := "curvesValuesSpec", unfollowed := true, recurses := true, apart := false }
def CurvesValuesSpecSaid : Prop := curvesValuesSpecRow.holds Try.pinned (OpenSpec.ofChange curvesValuesSpecSpec)

/-- ITS FALSE NEIGHBOUR: 'it returns false'. Refute it at one input. -/
def curvesValuesSpecWrong : ChangeSpec := { name := "curvesValuesSpec", fn := fun _ => fun
  | [d1, d2, d3] => { results := [.lit (.bool false)], args := [d1, d2, d3] }
  | _ => none }
def CurvesValuesSpecWrongFalsely : Prop := curvesValuesSpecRow.holds Try.pinned (OpenSpec.ofChange curvesValuesSpecWrong)

/-- 'soundpostlaw11.CurvesResolveSpec': WHATEVER THE INPUT: true; the input reads as it did. -/
def curvesResolveSpecSpec : ChangeSpec := { name := "curvesResolveSpec", fn := fun _ => fun
  | [d1, d2] => { results := [.lit (.bool true)], args := [d1, d2] }
  | _ => none }
def curvesResolveSpecRow : OpenClaim := { program := "ytbppajenihjfhaa", sum := "fc138f0c368326bbd18af89e2ad58ebc4df4b5302cbdda5fe790551f605623f1", func := "soundpost/soundpostlaw11.CurvesResolveSpec", spec := "curvesResolveSpec", unfollowed := true, recurses := true, apart := false }
def CurvesResolveSpecSaid : Prop := curvesResolveSpecRow.holds Try.pinned (OpenSpec.ofChange curvesResolveSpecSpec)

/-- ITS FALSE NEIGHBOUR: 'it returns false'. Refute it at one input. -/
def curvesResolveSpecWrong : ChangeSpec := { name := "curvesResolveSpec", fn := fun _ => fun
  | [d1, d2] => { results := [.lit (.bool false)], args := [d1, d2] }
  | _ => none }
def CurvesResolveSpecWrongFalsely : Prop := curvesResolveSpecRow.holds Try.pinned (OpenSpec.ofChange curvesResolveSpecWrong)

/-- 'soundpostlaw11.CurvesBetween': WHATEVER THE INPUT: true; the input reads as it did. -/
def curvesBetweenSpec : ChangeSpec := { name := "curvesBetween", fn := fun _ => fun
  | [d1, d2, d3, d4] => { results := [.lit (.bool true)], args := [d1, d2, d3, d4] }
  | _ => none }
def curvesBetweenRow : OpenClaim := { program := "ytbppajenihjfhaa", sum := "fc138f0c368326bbd18af89e2ad58ebc4df4b5302cbdda5fe790551f605623f1", func := "soundpost/soundpostlaw11.CurvesBetween", spec := "curvesBetween", unfollowed := true, recurses := true, apart := false }
def CurvesBetweenSaid : Prop := curvesBetweenRow.holds Try.pinned (OpenSpec.ofChange curvesBetweenSpec)

/-- ITS FALSE NEIGHBOUR: 'it returns false'. Refute it at one input. -/
def curvesBetweenWrong : ChangeSpec := { name := "curvesBetween", fn := fun _ => fun
  | [d1, d2, d3, d4] => { results := [.lit (.bool false)], args := [d1, d2, d3, d4] }
  | _ => none }
def CurvesBetweenWrongFalsely : Prop := curvesBetweenRow.holds Try.pinned (OpenSpec.ofChange curvesBetweenWrong)

/-- 'soundpostlaw11.CurvesEnds': WHATEVER THE INPUT: true; the input reads as it did. -/
def curvesEndsSpec : ChangeSpec := { name := "curvesEnds", fn := fun _ => fun
  | [d1, d2] => { results := [.lit (.bool true)], args := [d1, d2] }
  | _ => none }
def curvesEndsRow : OpenClaim := { program := "ytbppajenihjfhaa", sum := "fc138f0c368326bbd18af89e2ad58ebc4df4b5302cbdda5fe790551f605623f1", func := "soundpost/soundpostlaw11.CurvesEnds", spec := "curvesEnds", unfollowed := true, recurses := true, apart := false }
def CurvesEndsSaid : Prop := curvesEndsRow.holds Try.pinned (OpenSpec.ofChange curvesEndsSpec)

/-- ITS FALSE NEIGHBOUR: 'it returns false'. Refute it at one input. -/
def curvesEndsWrong : ChangeSpec := { name := "curvesEnds", fn := fun _ => fun
  | [d1, d2] => { results := [.lit (.bool false)], args := [d1, d2] }
  | _ => none }
def CurvesEndsWrongFalsely : Prop := curvesEndsRow.holds Try.pinned (OpenSpec.ofChange curvesEndsWrong)

/-- 'soundpostlaw11.CurvesLocal': WHATEVER THE INPUT: true; the input reads as it did. -/
def curvesLocalSpec : ChangeSpec := { name := "curvesLocal", fn := fun _ => fun
  | [d1, d2, d3] => { results := [.lit (.bool true)], args := [d1, d2, d3] }
  | _ => none }
def curvesLocalRow : OpenClaim := { program := "ytbppajenihjfhaa", sum := "fc138f0c368326bbd18af89e2ad58ebc4df4b5302cbdda5fe790551f605623f1", func := "soundpost/soundpostlaw11.CurvesLocal", spec := "curvesLocal", unfollowed := true, recurses := true, apart := false }
def CurvesLocalSaid : Prop := curvesLocalRow.holds Try.pinned (OpenSpec.ofChange curvesLocalSpec)

/-- ITS FALSE NEIGHBOUR: 'it returns false'. Refute it at one input. -/
def curvesLocalWrong : ChangeSpec := { name := "curvesLocal", fn := fun _ => fun
  | [d1, d2, d3] => { results := [.lit (.bool false)], args := [d1, d2, d3] }
  | _ => none }
def CurvesLocalWrongFalsely : Prop := curvesLocalRow.holds Try.pinned (OpenSpec.ofChange curvesLocalWrong)

/-- 'soundpostlaw11.CurvesMoved': WHATEVER THE INPUT: true; the input reads as it did. -/
def curvesMovedSpec : ChangeSpec := { name := "curvesMoved", fn := fun _ => fun
  | [d1, d2, d3, d4] => { results := [.lit (.bool true)], args := [d1, d2, d3, d4] }
  | _ => none }
def curvesMovedRow : OpenClaim := { program := "ytbppajenihjfhaa", sum := "fc138f0c368326bbd18af89e2ad58ebc4df4b5302cbdda5fe790551f605623f1", func := "soundpost/soundpostlaw11.CurvesMoved", spec := "curvesMoved", unfollowed := true, recurses := true, apart := false }
def CurvesMovedSaid : Prop := curvesMovedRow.holds Try.pinned (OpenSpec.ofChange curvesMovedSpec)

/-- ITS FALSE NEIGHBOUR: 'it returns false'. Refute it at one input. -/
def curvesMovedWrong : ChangeSpec := { name := "curvesMoved", fn := fun _ => fun
  | [d1, d2, d3, d4] => { results := [.lit (.bool false)], args := [d1, d2, d3, d4] }
  | _ => none }
def CurvesMovedWrongFalsely : Prop := curvesMovedRow.holds Try.pinned (OpenSpec.ofChange curvesMovedWrong)

/-- 'soundpostlaw11.CurvesResolved': WHATEVER THE INPUT: true; the input reads as it did. -/
def curvesResolvedSpec : ChangeSpec := { name := "curvesResolved", fn := fun _ => fun
  | [d1, d2] => { results := [.lit (.bool true)], args := [d1, d2] }
  | _ => none }
def curvesResolvedRow : OpenClaim := { program := "ytbppajenihjfhaa", sum := "fc138f0c368326bbd18af89e2ad58ebc4df4b5302cbdda5fe790551f605623f1", func := "soundpost/soundpostlaw11.CurvesResolved", spec := "curvesResolved", unfollowed := true, recurses := true, apart := false }
def CurvesResolvedSaid : Prop := curvesResolvedRow.holds Try.pinned (OpenSpec.ofChange curvesResolvedSpec)

/-- ITS FALSE NEIGHBOUR: 'it returns false'. Refute it at one input. -/
def curvesResolvedWrong : ChangeSpec := { name := "curvesResolved", fn := fun _ => fun
  | [d1, d2] => { results := [.lit (.bool false)], args := [d1, d2] }
  | _ => none }
def CurvesResolvedWrongFalsely : Prop := curvesResolvedRow.holds Try.pinned (OpenSpec.ofChange curvesResolvedWrong)

/- THE SECOND FORM. 'bulk': how many values and letters a reading holds, each counted each time it is reached (what is shared counts as often as it is met; a slice's spare places count too). A statement '..UptoSaid' is the law's where the arguments, and the package variables that the reading takes, are together of bulk at most 1048576: NARROWER than '..Said'. Prove '..Said' where nothing that the law and all that it calls make is longer than what came in: it says more and counts as full. Else prove '..UptoSaid'. A law counts once. -/
mutual
def uptoBulk {H : Type} : DataW H → Nat
  | .lit (.string bytes) => bytes.length + 1
  | .lit _ => 1
  | .nil => 1
  | .ptr d => uptoBulk d + 1
  | .slice elems spare => uptoBulkAll elems + uptoBulkAll spare + 1
  | .agg parts => uptoBulkAll parts + 1
  | .iface _ d => uptoBulk d + 1
  | .map entries => uptoBulkEntries entries + 1
  | .held _ => 1
def uptoBulkAll {H : Type} : List (DataW H) → Nat
  | [] => 0
  | d :: r => uptoBulk d + uptoBulkAll r
def uptoBulkEntries {H : Type} : List (Lit × DataW H) → Nat
  | [] => 0
  | x :: r => uptoBulkEntry x + uptoBulkEntries r
def uptoBulkEntry {H : Type} : Lit × DataW H → Nat
  | (.string bytes, d) => bytes.length + uptoBulk d + 1
  | (_, d) => uptoBulk d + 1
 end
def uptoSmall : (H : Type) → List (DataW H) → Bool := fun _ ds => decide (uptoBulkAll ds ≤ 1048576)
def OpenSpec.upto (s : _root_.Go.ChangeSpec) : _root_.Go.OpenSpec := { _root_.Go.OpenSpec.ofChange s with cond := some uptoSmall }

/-- 'soundpostlaw12.GesturesSpec', WHERE WHAT IT READS IS OF BULK AT MOST 1048576: true; the input reads as it did. -/
def gesturesSpecUptoRow : OpenClaim := { program := "ytbppajenihjfhaa", sum := "fc138f0c368326bbd18af89e2ad58ebc4df4b5302cbdda5fe790551f605623f1", func := "soundpost/soundpostlaw12.GesturesSpec", spec := "gesturesSpec", unfollowed := true, recurses := true, apart := false, narrowed := true }
def GesturesSpecUptoSaid : Prop := gesturesSpecUptoRow.holds Try.pinned (OpenSpec.upto gesturesSpecSpec)

/-- 'soundpostlaw12.GesturesValuesSpec', WHERE WHAT IT READS IS OF BULK AT MOST 1048576: true; the input reads as it did. -/
def gesturesValuesSpecUptoRow : OpenClaim := { program := "ytbppajenihjfhaa", sum := "fc138f0c368326bbd18af89e2ad58ebc4df4b5302cbdda5fe790551f605623f1", func := "soundpost/soundpostlaw12.GesturesValuesSpec", spec := "gesturesValuesSpec", unfollowed := true, recurses := true, apart := false, narrowed := true }
def GesturesValuesSpecUptoSaid : Prop := gesturesValuesSpecUptoRow.holds Try.pinned (OpenSpec.upto gesturesValuesSpecSpec)

/-- 'soundpostlaw12.GesturesDivide', WHERE WHAT IT READS IS OF BULK AT MOST 1048576: true; the input reads as it did. -/
def gesturesDivideUptoRow : OpenClaim := { program := "ytbppajenihjfhaa", sum := "fc138f0c368326bbd18af89e2ad58ebc4df4b5302cbdda5fe790551f605623f1", func := "soundpost/soundpostlaw12.GesturesDivide", spec := "gesturesDivide", unfollowed := true, recurses := true, apart := false, narrowed := true }
def GesturesDivideUptoSaid : Prop := gesturesDivideUptoRow.holds Try.pinned (OpenSpec.upto gesturesDivideSpec)

/-- 'soundpostlaw12.GesturesCover', WHERE WHAT IT READS IS OF BULK AT MOST 1048576: true; the input reads as it did. -/
def gesturesCoverUptoRow : OpenClaim := { program := "ytbppajenihjfhaa", sum := "fc138f0c368326bbd18af89e2ad58ebc4df4b5302cbdda5fe790551f605623f1", func := "soundpost/soundpostlaw12.GesturesCover", spec := "gesturesCover", unfollowed := true, recurses := true, apart := false, narrowed := true }
def GesturesCoverUptoSaid : Prop := gesturesCoverUptoRow.holds Try.pinned (OpenSpec.upto gesturesCoverSpec)

/-- 'soundpostlaw12.GesturesTrim', WHERE WHAT IT READS IS OF BULK AT MOST 1048576: true; the input reads as it did. -/
def gesturesTrimUptoRow : OpenClaim := { program := "ytbppajenihjfhaa", sum := "fc138f0c368326bbd18af89e2ad58ebc4df4b5302cbdda5fe790551f605623f1", func := "soundpost/soundpostlaw12.GesturesTrim", spec := "gesturesTrim", unfollowed := true, recurses := true, apart := false, narrowed := true }
def GesturesTrimUptoSaid : Prop := gesturesTrimUptoRow.holds Try.pinned (OpenSpec.upto gesturesTrimSpec)

/-- 'soundpostlaw12.GesturesHeld', WHERE WHAT IT READS IS OF BULK AT MOST 1048576: true; the input reads as it did. -/
def gesturesHeldUptoRow : OpenClaim := { program := "ytbppajenihjfhaa", sum := "fc138f0c368326bbd18af89e2ad58ebc4df4b5302cbdda5fe790551f605623f1", func := "soundpost/soundpostlaw12.GesturesHeld", spec := "gesturesHeld", unfollowed := true, recurses := true, apart := false, narrowed := true }
def GesturesHeldUptoSaid : Prop := gesturesHeldUptoRow.holds Try.pinned (OpenSpec.upto gesturesHeldSpec)

/-- 'soundpostlaw12.GesturesEach', WHERE WHAT IT READS IS OF BULK AT MOST 1048576: true; the input reads as it did. -/
def gesturesEachUptoRow : OpenClaim := { program := "ytbppajenihjfhaa", sum := "fc138f0c368326bbd18af89e2ad58ebc4df4b5302cbdda5fe790551f605623f1", func := "soundpost/soundpostlaw12.GesturesEach", spec := "gesturesEach", unfollowed := true, recurses := true, apart := false, narrowed := true }
def GesturesEachUptoSaid : Prop := gesturesEachUptoRow.holds Try.pinned (OpenSpec.upto gesturesEachSpec)

/-- 'soundpostlaw09.TempoSampleSpec', WHERE WHAT IT READS IS OF BULK AT MOST 1048576: true; the input reads as it did. -/
def tempoSampleSpecUptoRow : OpenClaim := { program := "ytbppajenihjfhaa", sum := "fc138f0c368326bbd18af89e2ad58ebc4df4b5302cbdda5fe790551f605623f1", func := "soundpost/soundpostlaw09.TempoSampleSpec", spec := "tempoSampleSpec", inPlace := ["slices.overlaps[soundpost/api.Tempo]"], unfollowed := true, recurses := true, apart := false, narrowed := true }
def TempoSampleSpecUptoSaid : Prop := tempoSampleSpecUptoRow.holds Try.pinned (OpenSpec.upto tempoSampleSpecSpec)

/-- 'soundpostlaw09.TempoTickSpec', WHERE WHAT IT READS IS OF BULK AT MOST 1048576: true; the input reads as it did. -/
def tempoTickSpecUptoRow : OpenClaim := { program := "ytbppajenihjfhaa", sum := "fc138f0c368326bbd18af89e2ad58ebc4df4b5302cbdda5fe790551f605623f1", func := "soundpost/soundpostlaw09.TempoTickSpec", spec := "tempoTickSpec", inPlace := ["slices.overlaps[soundpost/api.Tempo]"], unfollowed := true, recurses := true, apart := false, narrowed := true }
def TempoTickSpecUptoSaid : Prop := tempoTickSpecUptoRow.holds Try.pinned (OpenSpec.upto tempoTickSpecSpec)

/-- 'soundpostlaw09.TempoInsertSpec', WHERE WHAT IT READS IS OF BULK AT MOST 1048576: true; the input reads as it did. -/
def tempoInsertSpecUptoRow : OpenClaim := { program := "ytbppajenihjfhaa", sum := "fc138f0c368326bbd18af89e2ad58ebc4df4b5302cbdda5fe790551f605623f1", func := "soundpost/soundpostlaw09.TempoInsertSpec", spec := "tempoInsertSpec", inPlace := ["slices.overlaps[soundpost/api.Tempo]"], unfollowed := true, recurses := true, apart := false, narrowed := true }
def TempoInsertSpecUptoSaid : Prop := tempoInsertSpecUptoRow.holds Try.pinned (OpenSpec.upto tempoInsertSpecSpec)

/-- 'soundpostlaw09.TempoInverse', WHERE WHAT IT READS IS OF BULK AT MOST 1048576: true; the input reads as it did. -/
def tempoInverseUptoRow : OpenClaim := { program := "ytbppajenihjfhaa", sum := "fc138f0c368326bbd18af89e2ad58ebc4df4b5302cbdda5fe790551f605623f1", func := "soundpost/soundpostlaw09.TempoInverse", spec := "tempoInverse", inPlace := ["slices.overlaps[soundpost/api.Tempo]"], unfollowed := true, recurses := true, apart := false, narrowed := true }
def TempoInverseUptoSaid : Prop := tempoInverseUptoRow.holds Try.pinned (OpenSpec.upto tempoInverseSpec)

/-- 'soundpostlaw09.TempoMonotone', WHERE WHAT IT READS IS OF BULK AT MOST 1048576: true; the input reads as it did. -/
def tempoMonotoneUptoRow : OpenClaim := { program := "ytbppajenihjfhaa", sum := "fc138f0c368326bbd18af89e2ad58ebc4df4b5302cbdda5fe790551f605623f1", func := "soundpost/soundpostlaw09.TempoMonotone", spec := "tempoMonotone", inPlace := ["slices.overlaps[soundpost/api.Tempo]"], unfollowed := true, recurses := true, apart := false, narrowed := true }
def TempoMonotoneUptoSaid : Prop := tempoMonotoneUptoRow.holds Try.pinned (OpenSpec.upto tempoMonotoneSpec)

/-- 'soundpostlaw09.TempoInserted', WHERE WHAT IT READS IS OF BULK AT MOST 1048576: true; the input reads as it did. -/
def tempoInsertedUptoRow : OpenClaim := { program := "ytbppajenihjfhaa", sum := "fc138f0c368326bbd18af89e2ad58ebc4df4b5302cbdda5fe790551f605623f1", func := "soundpost/soundpostlaw09.TempoInserted", spec := "tempoInserted", inPlace := ["slices.overlaps[soundpost/api.Tempo]"], unfollowed := true, recurses := true, apart := false, narrowed := true }
def TempoInsertedUptoSaid : Prop := tempoInsertedUptoRow.holds Try.pinned (OpenSpec.upto tempoInsertedSpec)

/-- 'soundpostlaw09.TempoSplit', WHERE WHAT IT READS IS OF BULK AT MOST 1048576: true; the input reads as it did. -/
def tempoSplitUptoRow : OpenClaim := { program := "ytbppajenihjfhaa", sum := "fc138f0c368326bbd18af89e2ad58ebc4df4b5302cbdda5fe790551f605623f1", func := "soundpost/soundpostlaw09.TempoSplit", spec := "tempoSplit", inPlace := ["slices.overlaps[soundpost/api.Tempo]"], unfollowed := true, recurses := true, apart := false, narrowed := true }
def TempoSplitUptoSaid : Prop := tempoSplitUptoRow.holds Try.pinned (OpenSpec.upto tempoSplitSpec)

/-- 'soundpostlaw11.CurvesValueSpec', WHERE WHAT IT READS IS OF BULK AT MOST 1048576: true; the input reads as it did. -/
def curvesValueSpecUptoRow : OpenClaim := { program := "ytbppajenihjfhaa", sum := "fc138f0c368326bbd18af89e2ad58ebc4df4b5302cbdda5fe790551f605623f1", func := "soundpost/soundpostlaw11.CurvesValueSpec", spec := "curvesValueSpec", unfollowed := true, recurses := true, apart := false, narrowed := true }
def CurvesValueSpecUptoSaid : Prop := curvesValueSpecUptoRow.holds Try.pinned (OpenSpec.upto curvesValueSpecSpec)

/-- 'soundpostlaw11.CurvesValuesSpec', WHERE WHAT IT READS IS OF BULK AT MOST 1048576: true; the input reads as it did. -/
def curvesValuesSpecUptoRow : OpenClaim := { program := "ytbppajenihjfhaa", sum := "fc138f0c368326bbd18af89e2ad58ebc4df4b5302cbdda5fe790551f605623f1", func := "soundpost/soundpostlaw11.CurvesValuesSpec", spec := "curvesValuesSpec", unfollowed := true, recurses := true, apart := false, narrowed := true }
def CurvesValuesSpecUptoSaid : Prop := curvesValuesSpecUptoRow.holds Try.pinned (OpenSpec.upto curvesValuesSpecSpec)

/-- 'soundpostlaw11.CurvesResolveSpec', WHERE WHAT IT READS IS OF BULK AT MOST 1048576: true; the input reads as it did. -/
def curvesResolveSpecUptoRow : OpenClaim := { program := "ytbppajenihjfhaa", sum := "fc138f0c368326bbd18af89e2ad58ebc4df4b5302cbdda5fe790551f605623f1", func := "soundpost/soundpostlaw11.CurvesResolveSpec", spec := "curvesResolveSpec", unfollowed := true, recurses := true, apart := false, narrowed := true }
def CurvesResolveSpecUptoSaid : Prop := curvesResolveSpecUptoRow.holds Try.pinned (OpenSpec.upto curvesResolveSpecSpec)

/-- 'soundpostlaw11.CurvesBetween', WHERE WHAT IT READS IS OF BULK AT MOST 1048576: true; the input reads as it did. -/
def curvesBetweenUptoRow : OpenClaim := { program := "ytbppajenihjfhaa", sum := "fc138f0c368326bbd18af89e2ad58ebc4df4b5302cbdda5fe790551f605623f1", func := "soundpost/soundpostlaw11.CurvesBetween", spec := "curvesBetween", unfollowed := true, recurses := true, apart := false, narrowed := true }
def CurvesBetweenUptoSaid : Prop := curvesBetweenUptoRow.holds Try.pinned (OpenSpec.upto curvesBetweenSpec)

/-- 'soundpostlaw11.CurvesEnds', WHERE WHAT IT READS IS OF BULK AT MOST 1048576: true; the input reads as it did. -/
def curvesEndsUptoRow : OpenClaim := { program := "ytbppajenihjfhaa", sum := "fc138f0c368326bbd18af89e2ad58ebc4df4b5302cbdda5fe790551f605623f1", func := "soundpost/soundpostlaw11.CurvesEnds", spec := "curvesEnds", unfollowed := true, recurses := true, apart := false, narrowed := true }
def CurvesEndsUptoSaid : Prop := curvesEndsUptoRow.holds Try.pinned (OpenSpec.upto curvesEndsSpec)

/-- 'soundpostlaw11.CurvesLocal', WHERE WHAT IT READS IS OF BULK AT MOST 1048576: true; the input reads as it did. -/
def curvesLocalUptoRow : OpenClaim := { program := "ytbppajenihjfhaa", sum := "fc138f0c368326bbd18af89e2ad58ebc4df4b5302cbdda5fe790551f605623f1", func := "soundpost/soundpostlaw11.CurvesLocal", spec := "curvesLocal", unfollowed := true, recurses := true, apart := false, narrowed := true }
def CurvesLocalUptoSaid : Prop := curvesLocalUptoRow.holds Try.pinned (OpenSpec.upto curvesLocalSpec)

/-- 'soundpostlaw11.CurvesMoved', WHERE WHAT IT READS IS OF BULK AT MOST 1048576: true; the input reads as it did. -/
def curvesMovedUptoRow : OpenClaim := { program := "ytbppajenihjfhaa", sum := "fc138f0c368326bbd18af89e2ad58ebc4df4b5302cbdda5fe790551f605623f1", func := "soundpost/soundpostlaw11.CurvesMoved", spec := "curvesMoved", unfollowed := true, recurses := true, apart := false, narrowed := true }
def CurvesMovedUptoSaid : Prop := curvesMovedUptoRow.holds Try.pinned (OpenSpec.upto curvesMovedSpec)

/-- 'soundpostlaw11.CurvesResolved', WHERE WHAT IT READS IS OF BULK AT MOST 1048576: true; the input reads as it did. -/
def curvesResolvedUptoRow : OpenClaim := { program := "ytbppajenihjfhaa", sum := "fc138f0c368326bbd18af89e2ad58ebc4df4b5302cbdda5fe790551f605623f1", func := "soundpost/soundpostlaw11.CurvesResolved", spec := "curvesResolved", unfollowed := true, recurses := true, apart := false, narrowed := true }
def CurvesResolvedUptoSaid : Prop := curvesResolvedUptoRow.holds Try.pinned (OpenSpec.upto curvesResolvedSpec)

end Rows
end Go.Proofs.Ytbppajenihjfhaa
