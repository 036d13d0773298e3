/-
  No cell of these rows narrows 'for every input' (looked for: loops, veiled, ifaces, maps, wideKeys, modest, calm, conditions, laid).
  DERIVED. THE GIVEN ROWS OF THIS SEAT. 6 by the template 'for every input the law returns true; each argument reads behind the call as it read before'; 0 by the template 'total and deterministic' (their statements: YtdnjpfjiaomlgaaTotals.lean).
  GIVEN WITH THE SEED: the statements are not yours to turn. If you find one false, say at which input.
  Laid BY PROGRAM, IN A SANDBOX (cutbox-rows.mjs): the forced cells as the released guide's own fill.sh prints them over the translation 72a65194d7f00d20… (all of the seat's roots in one cut). By AI agents, Wed Nov 11 2026. No macro, syntax, notation, axiom, sorry.
-/
import Derived.Test.YtdnjpfjiaomlgaaChecked
import GoSem.Claim
import GoSem.ClaimJoined
import GoSem.ClaimMapViews
import Derived.JoinedTies
import Derived.KernelRfl
namespace Go.Proofs.Ytdnjpfjiaomlgaa
/- THE CELL 'sum', in the pinned program and in every row, IS THE sha256 OF THE DUMP (.gsa) THAT YtdnjpfjiaomlgaaProg.lean LOADS. Nothing in Lean hashes anything: it is a label: what it is worth is what the hold of that sum in a sandbox is worth. -/
noncomputable def Try.pinned : Pinned := { name := "ytdnjpfjiaomlgaa", sum := "72a65194d7f00d20e70a8532c97ebc7aa7c3f26cb2cbb12c012cf3ab05f76bb4", checked := Try.checked }
namespace Rows
def none {H : Type} : Left H := { results := [], args := [] }

/-- 'soundpostlaw42.CalibrateSpec': WHATEVER THE INPUT: true; the input reads as it did. -/
def calibrateSpecSpec : ChangeSpec := { name := "calibrateSpec", fn := fun _ => fun
  | [d1, d2] => { results := [.lit (.bool true)], args := [d1, d2] }
  | _ => none }
def calibrateSpecRow : OpenClaim := { program := "ytdnjpfjiaomlgaa", sum := "72a65194d7f00d20e70a8532c97ebc7aa7c3f26cb2cbb12c012cf3ab05f76bb4", func := "soundpost/soundpostlaw42.CalibrateSpec", spec := "calibrateSpec", inPlace := ["slices.overlaps[soundpost/api.Record]"], unfollowed := true, recurses := true, apart := false }
def CalibrateSpecSaid : Prop := calibrateSpecRow.holds Try.pinned (OpenSpec.ofChange calibrateSpecSpec)

/-- ITS FALSE NEIGHBOUR: 'it returns false'. Refute it at one input. -/
def calibrateSpecWrong : ChangeSpec := { name := "calibrateSpec", fn := fun _ => fun
  | [d1, d2] => { results := [.lit (.bool false)], args := [d1, d2] }
  | _ => none }
def CalibrateSpecWrongFalsely : Prop := calibrateSpecRow.holds Try.pinned (OpenSpec.ofChange calibrateSpecWrong)

/-- 'soundpostlaw42.CalibrateAtSpec': WHATEVER THE INPUT: true; the input reads as it did. -/
def calibrateAtSpecSpec : ChangeSpec := { name := "calibrateAtSpec", fn := fun _ => fun
  | [d1, d2, d3, d4, d5] => { results := [.lit (.bool true)], args := [d1, d2, d3, d4, d5] }
  | _ => none }
def calibrateAtSpecRow : OpenClaim := { program := "ytdnjpfjiaomlgaa", sum := "72a65194d7f00d20e70a8532c97ebc7aa7c3f26cb2cbb12c012cf3ab05f76bb4", func := "soundpost/soundpostlaw42.CalibrateAtSpec", spec := "calibrateAtSpec", inPlace := ["slices.overlaps[soundpost/api.Record]"], unfollowed := true, recurses := true, apart := false }
def CalibrateAtSpecSaid : Prop := calibrateAtSpecRow.holds Try.pinned (OpenSpec.ofChange calibrateAtSpecSpec)

/-- ITS FALSE NEIGHBOUR: 'it returns false'. Refute it at one input. -/
def calibrateAtSpecWrong : ChangeSpec := { name := "calibrateAtSpec", fn := fun _ => fun
  | [d1, d2, d3, d4, d5] => { results := [.lit (.bool false)], args := [d1, d2, d3, d4, d5] }
  | _ => none }
def CalibrateAtSpecWrongFalsely : Prop := calibrateAtSpecRow.holds Try.pinned (OpenSpec.ofChange calibrateAtSpecWrong)

/-- 'soundpostlaw42.CalibrateCounts': WHATEVER THE INPUT: true; the input reads as it did. -/
def calibrateCountsSpec : ChangeSpec := { name := "calibrateCounts", fn := fun _ => fun
  | [d1, d2, d3, d4] => { results := [.lit (.bool true)], args := [d1, d2, d3, d4] }
  | _ => none }
def calibrateCountsRow : OpenClaim := { program := "ytdnjpfjiaomlgaa", sum := "72a65194d7f00d20e70a8532c97ebc7aa7c3f26cb2cbb12c012cf3ab05f76bb4", func := "soundpost/soundpostlaw42.CalibrateCounts", spec := "calibrateCounts", inPlace := ["slices.overlaps[soundpost/api.Record]"], unfollowed := true, recurses := true, apart := false }
def CalibrateCountsSaid : Prop := calibrateCountsRow.holds Try.pinned (OpenSpec.ofChange calibrateCountsSpec)

/-- ITS FALSE NEIGHBOUR: 'it returns false'. Refute it at one input. -/
def calibrateCountsWrong : ChangeSpec := { name := "calibrateCounts", fn := fun _ => fun
  | [d1, d2, d3, d4] => { results := [.lit (.bool false)], args := [d1, d2, d3, d4] }
  | _ => none }
def CalibrateCountsWrongFalsely : Prop := calibrateCountsRow.holds Try.pinned (OpenSpec.ofChange calibrateCountsWrong)

/-- 'soundpostlaw42.CalibrateChanged': WHATEVER THE INPUT: true; the input reads as it did. -/
def calibrateChangedSpec : ChangeSpec := { name := "calibrateChanged", fn := fun _ => fun
  | [d1, d2, d3, d4, d5] => { results := [.lit (.bool true)], args := [d1, d2, d3, d4, d5] }
  | _ => none }
def calibrateChangedRow : OpenClaim := { program := "ytdnjpfjiaomlgaa", sum := "72a65194d7f00d20e70a8532c97ebc7aa7c3f26cb2cbb12c012cf3ab05f76bb4", func := "soundpost/soundpostlaw42.CalibrateChanged", spec := "calibrateChanged", inPlace := ["slices.overlaps[soundpost/api.Record]"], unfollowed := true, recurses := true, apart := false }
def CalibrateChangedSaid : Prop := calibrateChangedRow.holds Try.pinned (OpenSpec.ofChange calibrateChangedSpec)

/-- ITS FALSE NEIGHBOUR: 'it returns false'. Refute it at one input. -/
def calibrateChangedWrong : ChangeSpec := { name := "calibrateChanged", fn := fun _ => fun
  | [d1, d2, d3, d4, d5] => { results := [.lit (.bool false)], args := [d1, d2, d3, d4, d5] }
  | _ => none }
def CalibrateChangedWrongFalsely : Prop := calibrateChangedRow.holds Try.pinned (OpenSpec.ofChange calibrateChangedWrong)

/-- 'soundpostlaw42.CalibrateAdd': WHATEVER THE INPUT: true; the input reads as it did. -/
def calibrateAddSpec : ChangeSpec := { name := "calibrateAdd", fn := fun _ => fun
  | [d1, d2, d3, d4, d5] => { results := [.lit (.bool true)], args := [d1, d2, d3, d4, d5] }
  | _ => none }
def calibrateAddRow : OpenClaim := { program := "ytdnjpfjiaomlgaa", sum := "72a65194d7f00d20e70a8532c97ebc7aa7c3f26cb2cbb12c012cf3ab05f76bb4", func := "soundpost/soundpostlaw42.CalibrateAdd", spec := "calibrateAdd", inPlace := ["slices.overlaps[soundpost/api.Record]"], unfollowed := true, recurses := true, apart := false }
def CalibrateAddSaid : Prop := calibrateAddRow.holds Try.pinned (OpenSpec.ofChange calibrateAddSpec)

/-- ITS FALSE NEIGHBOUR: 'it returns false'. Refute it at one input. -/
def calibrateAddWrong : ChangeSpec := { name := "calibrateAdd", fn := fun _ => fun
  | [d1, d2, d3, d4, d5] => { results := [.lit (.bool false)], args := [d1, d2, d3, d4, d5] }
  | _ => none }
def CalibrateAddWrongFalsely : Prop := calibrateAddRow.holds Try.pinned (OpenSpec.ofChange calibrateAddWrong)

/-- 'soundpostlaw42.CalibrateOrder': WHATEVER THE INPUT: true; the input reads as it did. -/
def calibrateOrderSpec : ChangeSpec := { name := "calibrateOrder", fn := fun _ => fun
  | [d1, d2] => { results := [.lit (.bool true)], args := [d1, d2] }
  | _ => none }
def calibrateOrderRow : OpenClaim := { program := "ytdnjpfjiaomlgaa", sum := "72a65194d7f00d20e70a8532c97ebc7aa7c3f26cb2cbb12c012cf3ab05f76bb4", func := "soundpost/soundpostlaw42.CalibrateOrder", spec := "calibrateOrder", inPlace := ["slices.overlaps[soundpost/api.Record]"], unfollowed := true, recurses := true, apart := false }
def CalibrateOrderSaid : Prop := calibrateOrderRow.holds Try.pinned (OpenSpec.ofChange calibrateOrderSpec)

/-- ITS FALSE NEIGHBOUR: 'it returns false'. Refute it at one input. -/
def calibrateOrderWrong : ChangeSpec := { name := "calibrateOrder", fn := fun _ => fun
  | [d1, d2] => { results := [.lit (.bool false)], args := [d1, d2] }
  | _ => none }
def CalibrateOrderWrongFalsely : Prop := calibrateOrderRow.holds Try.pinned (OpenSpec.ofChange calibrateOrderWrong)

/- THE SECOND FORM. 'bulk': how many values and letters a reading holds, each counted each time it is reached (what is shared counts as often as it is met; a slice's spare places count too). A statement '..UptoSaid' is the law's where the arguments, and the package variables that the reading takes, are together of bulk at most 1048576: NARROWER than '..Said'. Prove '..Said' where nothing that the law and all that it calls make is longer than what came in: it says more and counts as full. Else prove '..UptoSaid'. A law counts once. -/
mutual
def uptoBulk {H : Type} : DataW H → Nat
  | .lit (.string bytes) => bytes.length + 1
  | .lit _ => 1
  | .nil => 1
  | .ptr d => uptoBulk d + 1
  | .slice elems spare => uptoBulkAll elems + uptoBulkAll spare + 1
  | .agg parts => uptoBulkAll parts + 1
  | .iface _ d => uptoBulk d + 1
  | .map entries => uptoBulkEntries entries + 1
  | .held _ => 1
def uptoBulkAll {H : Type} : List (DataW H) → Nat
  | [] => 0
  | d :: r => uptoBulk d + uptoBulkAll r
def uptoBulkEntries {H : Type} : List (Lit × DataW H) → Nat
  | [] => 0
  | x :: r => uptoBulkEntry x + uptoBulkEntries r
def uptoBulkEntry {H : Type} : Lit × DataW H → Nat
  | (.string bytes, d) => bytes.length + uptoBulk d + 1
  | (_, d) => uptoBulk d + 1
 end
def uptoSmall : (H : Type) → List (DataW H) → Bool := fun _ ds => decide (uptoBulkAll ds ≤ 1048576)
def OpenSpec.upto (s : _root_.Go.ChangeSpec) : _root_.Go.OpenSpec := { _root_.Go.OpenSpec.ofChange s with cond := some uptoSmall }

/-- 'soundpostlaw42.CalibrateSpec', WHERE WHAT IT READS IS OF BULK AT MOST 1048576: true; the input reads as it did. -/
def calibrateSpecUptoRow : OpenClaim := { program := "ytdnjpfjiaomlgaa", sum := "72a65194d7f00d20e70a8532c97ebc7aa7c3f26cb2cbb12c012cf3ab05f76bb4", func := "soundpost/soundpostlaw42.CalibrateSpec", spec := "calibrateSpec", inPlace := ["slices.overlaps[soundpost/api.Record]"], unfollowed := true, recurses := true, apart := false, narrowed := true }
def CalibrateSpecUptoSaid : Prop := calibrateSpecUptoRow.holds Try.pinned (OpenSpec.upto calibrateSpecSpec)

/-- 'soundpostlaw42.CalibrateAtSpec', WHERE WHAT IT READS IS OF BULK AT MOST 1048576: true; the input reads as it did. -/
def calibrateAtSpecUptoRow : OpenClaim := { program := "ytdnjpfjiaomlgaa", sum := "72a65194d7f00d20e70a8532c97ebc7aa7c3f26cb2cbb12c012cf3ab05f76bb4", func := "soundpost/soundpostlaw42.CalibrateAtSpec", spec := "calibrateAtSpec", inPlace := ["slices.overlaps[soundpost/api.Record]"], unfollowed := true, recurses := true, apart := false, narrowed := true }
def CalibrateAtSpecUptoSaid : Prop := calibrateAtSpecUptoRow.holds Try.pinned (OpenSpec.upto calibrateAtSpecSpec)

/-- 'soundpostlaw42.CalibrateCounts', WHERE WHAT IT READS IS OF BULK AT MOST 1048576: true; the input reads as it did. -/
def calibrateCountsUptoRow : OpenClaim := { program := "ytdnjpfjiaomlgaa", sum := "72a65194d7f00d20e70a8532c97ebc7aa7c3f26cb2cbb12c012cf3ab05f76bb4", func := "soundpost/soundpostlaw42.CalibrateCounts", spec := "calibrateCounts", inPlace := ["slices.overlaps[soundpost/api.Record]"], unfollowed := true, recurses := true, apart := false, narrowed := true }
def CalibrateCountsUptoSaid : Prop := calibrateCountsUptoRow.holds Try.pinned (OpenSpec.upto calibrateCountsSpec)

/-- 'soundpostlaw42.CalibrateChanged', WHERE WHAT IT READS IS OF BULK AT MOST 1048576: true; the input reads as it did. -/
def calibrateChangedUptoRow : OpenClaim := { program := "ytdnjpfjiaomlgaa", sum := "72a65194d7f00d20e70a8532c97ebc7aa7c3f26cb2cbb12c012cf3ab05f76bb4", func := "soundpost/soundpostlaw42.CalibrateChanged", spec := "calibrateChanged", inPlace := ["slices.overlaps[soundpost/api.Record]"], unfollowed := true, recurses := true, apart := false, narrowed := true }
def CalibrateChangedUptoSaid : Prop := calibrateChangedUptoRow.holds Try.pinned (OpenSpec.upto calibrateChangedSpec)

/-- 'soundpostlaw42.CalibrateAdd', WHERE WHAT IT READS IS OF BULK AT MOST 1048576: true; the input reads as it did. -/
def calibrateAddUptoRow : OpenClaim := { program := "ytdnjpfjiaomlgaa", sum := "72a65194d7f00d20e70a8532c97ebc7aa7c3f26cb2cbb12c012cf3ab05f76bb4", func := "soundpost/soundpostlaw42.CalibrateAdd", spec := "calibrateAdd", inPlace := ["slices.overlaps[soundpost/api.Record]"], unfollowed := true, recurses := true, apart := false, narrowed := true }
def CalibrateAddUptoSaid : Prop := calibrateAddUptoRow.holds Try.pinned (OpenSpec.upto calibrateAddSpec)

/-- 'soundpostlaw42.CalibrateOrder', WHERE WHAT IT READS IS OF BULK AT MOST 1048576: true; the input reads as it did. -/
def calibrateOrderUptoRow : OpenClaim := { program := "ytdnjpfjiaomlgaa", sum := "72a65194d7f00d20e70a8532c97ebc7aa7c3f26cb2cbb12c012cf3ab05f76bb4", func := "soundpost/soundpostlaw42.CalibrateOrder", spec := "calibrateOrder", inPlace := ["slices.overlaps[soundpost/api.Record]"], unfollowed := true, recurses := true, apart := false, narrowed := true }
def CalibrateOrderUptoSaid : Prop := calibrateOrderUptoRow.holds Try.pinned (OpenSpec.upto calibrateOrderSpec)

end Rows
end Go.Proofs.Ytdnjpfjiaomlgaa
