/-
  No cell of these rows narrows 'for every input' (looked for: loops, veiled, ifaces, maps, wideKeys, modest, calm, conditions, laid).
  DERIVED. THE GIVEN ROWS OF THIS SEAT. 7 by the template 'for every input the law returns true; each argument reads behind the call as it read before'; 0 by the template 'total and deterministic' (their statements: YtfcibldknamekaaTotals.lean).
  GIVEN WITH THE SEED: the statements are not yours to turn. If you find one false, say at which input.
  Laid BY PROGRAM, IN A SANDBOX (cutbox-rows.mjs): the forced cells as the released guide's own fill.sh prints them over the translation abefb781cb216481… (all of the seat's roots in one cut). By AI agents, Wed Nov 11 2026. No macro, syntax, notation, axiom, sorry.
-/
import Derived.Test.YtfcibldknamekaaChecked
import GoSem.Claim
import GoSem.ClaimJoined
import GoSem.ClaimMapViews
import Derived.JoinedTies
import Derived.KernelRfl
namespace Go.Proofs.Ytfcibldknamekaa
/- THE CELL 'sum', in the pinned program and in every row, IS THE sha256 OF THE DUMP (.gsa) THAT YtfcibldknamekaaProg.lean LOADS. Nothing in Lean hashes anything: it is a label: what it is worth is what the hold of that sum in a sandbox is worth. -/
noncomputable def Try.pinned : Pinned := { name := "ytfcibldknamekaa", sum := "abefb781cb21648162c19a7d35912191235bed1f091bda8a37e110852436f8a6", checked := Try.checked }
namespace Rows
def none {H : Type} : Left H := { results := [], args := [] }

/-- 'soundpostlaw07.RationalMakeSpec': WHATEVER THE INPUT: true; the input reads as it did. -/
def rationalMakeSpecSpec : ChangeSpec := { name := "rationalMakeSpec", fn := fun _ => fun
  | [d1, d2, d3] => { results := [.lit (.bool true)], args := [d1, d2, d3] }
  | _ => none }
def rationalMakeSpecRow : OpenClaim := { program := "ytfcibldknamekaa", sum := "abefb781cb21648162c19a7d35912191235bed1f091bda8a37e110852436f8a6", func := "soundpost/soundpostlaw07.RationalMakeSpec", spec := "rationalMakeSpec", apart := false }
def RationalMakeSpecSaid : Prop := rationalMakeSpecRow.holds Try.pinned (OpenSpec.ofChange rationalMakeSpecSpec)

/-- ITS FALSE NEIGHBOUR: 'it returns false'. Refute it at one input. -/
def rationalMakeSpecWrong : ChangeSpec := { name := "rationalMakeSpec", fn := fun _ => fun
  | [d1, d2, d3] => { results := [.lit (.bool false)], args := [d1, d2, d3] }
  | _ => none }
def RationalMakeSpecWrongFalsely : Prop := rationalMakeSpecRow.holds Try.pinned (OpenSpec.ofChange rationalMakeSpecWrong)

/-- 'soundpostlaw07.RationalReduced': WHATEVER THE INPUT: true; the input reads as it did. -/
def rationalReducedSpec : ChangeSpec := { name := "rationalReduced", fn := fun _ => fun
  | [d1, d2, d3] => { results := [.lit (.bool true)], args := [d1, d2, d3] }
  | _ => none }
def rationalReducedRow : OpenClaim := { program := "ytfcibldknamekaa", sum := "abefb781cb21648162c19a7d35912191235bed1f091bda8a37e110852436f8a6", func := "soundpost/soundpostlaw07.RationalReduced", spec := "rationalReduced", apart := false }
def RationalReducedSaid : Prop := rationalReducedRow.holds Try.pinned (OpenSpec.ofChange rationalReducedSpec)

/-- ITS FALSE NEIGHBOUR: 'it returns false'. Refute it at one input. -/
def rationalReducedWrong : ChangeSpec := { name := "rationalReduced", fn := fun _ => fun
  | [d1, d2, d3] => { results := [.lit (.bool false)], args := [d1, d2, d3] }
  | _ => none }
def RationalReducedWrongFalsely : Prop := rationalReducedRow.holds Try.pinned (OpenSpec.ofChange rationalReducedWrong)

/-- 'soundpostlaw07.RationalFloor': WHATEVER THE INPUT: true; the input reads as it did. -/
def rationalFloorSpec : ChangeSpec := { name := "rationalFloor", fn := fun _ => fun
  | [d1, d2] => { results := [.lit (.bool true)], args := [d1, d2] }
  | _ => none }
def rationalFloorRow : OpenClaim := { program := "ytfcibldknamekaa", sum := "abefb781cb21648162c19a7d35912191235bed1f091bda8a37e110852436f8a6", func := "soundpost/soundpostlaw07.RationalFloor", spec := "rationalFloor", apart := false }
def RationalFloorSaid : Prop := rationalFloorRow.holds Try.pinned (OpenSpec.ofChange rationalFloorSpec)

/-- ITS FALSE NEIGHBOUR: 'it returns false'. Refute it at one input. -/
def rationalFloorWrong : ChangeSpec := { name := "rationalFloor", fn := fun _ => fun
  | [d1, d2] => { results := [.lit (.bool false)], args := [d1, d2] }
  | _ => none }
def RationalFloorWrongFalsely : Prop := rationalFloorRow.holds Try.pinned (OpenSpec.ofChange rationalFloorWrong)

/-- 'soundpostlaw07.RationalSpec': WHATEVER THE INPUT: true; the input reads as it did. -/
def rationalSpecSpec : ChangeSpec := { name := "rationalSpec", fn := fun _ => fun
  | [d1, d2] => { results := [.lit (.bool true)], args := [d1, d2] }
  | _ => none }
def rationalSpecRow : OpenClaim := { program := "ytfcibldknamekaa", sum := "abefb781cb21648162c19a7d35912191235bed1f091bda8a37e110852436f8a6", func := "soundpost/soundpostlaw07.RationalSpec", spec := "rationalSpec", apart := false }
def RationalSpecSaid : Prop := rationalSpecRow.holds Try.pinned (OpenSpec.ofChange rationalSpecSpec)

/-- ITS FALSE NEIGHBOUR: 'it returns false'. Refute it at one input. -/
def rationalSpecWrong : ChangeSpec := { name := "rationalSpec", fn := fun _ => fun
  | [d1, d2] => { results := [.lit (.bool false)], args := [d1, d2] }
  | _ => none }
def RationalSpecWrongFalsely : Prop := rationalSpecRow.holds Try.pinned (OpenSpec.ofChange rationalSpecWrong)

/-- 'soundpostlaw07.RationalField': WHATEVER THE INPUT: true; the input reads as it did. -/
def rationalFieldSpec : ChangeSpec := { name := "rationalField", fn := fun _ => fun
  | [d1, d2, d3] => { results := [.lit (.bool true)], args := [d1, d2, d3] }
  | _ => none }
def rationalFieldRow : OpenClaim := { program := "ytfcibldknamekaa", sum := "abefb781cb21648162c19a7d35912191235bed1f091bda8a37e110852436f8a6", func := "soundpost/soundpostlaw07.RationalField", spec := "rationalField", apart := false }
def RationalFieldSaid : Prop := rationalFieldRow.holds Try.pinned (OpenSpec.ofChange rationalFieldSpec)

/-- ITS FALSE NEIGHBOUR: 'it returns false'. Refute it at one input. -/
def rationalFieldWrong : ChangeSpec := { name := "rationalField", fn := fun _ => fun
  | [d1, d2, d3] => { results := [.lit (.bool false)], args := [d1, d2, d3] }
  | _ => none }
def RationalFieldWrongFalsely : Prop := rationalFieldRow.holds Try.pinned (OpenSpec.ofChange rationalFieldWrong)

/-- 'soundpostlaw07.RationalInverse': WHATEVER THE INPUT: true; the input reads as it did. -/
def rationalInverseSpec : ChangeSpec := { name := "rationalInverse", fn := fun _ => fun
  | [d] => { results := [.lit (.bool true)], args := [d] }
  | _ => none }
def rationalInverseRow : OpenClaim := { program := "ytfcibldknamekaa", sum := "abefb781cb21648162c19a7d35912191235bed1f091bda8a37e110852436f8a6", func := "soundpost/soundpostlaw07.RationalInverse", spec := "rationalInverse", apart := false }
def RationalInverseSaid : Prop := rationalInverseRow.holds Try.pinned (OpenSpec.ofChange rationalInverseSpec)

/-- ITS FALSE NEIGHBOUR: 'it returns false'. Refute it at one input. -/
def rationalInverseWrong : ChangeSpec := { name := "rationalInverse", fn := fun _ => fun
  | [d] => { results := [.lit (.bool false)], args := [d] }
  | _ => none }
def RationalInverseWrongFalsely : Prop := rationalInverseRow.holds Try.pinned (OpenSpec.ofChange rationalInverseWrong)

/-- 'soundpostlaw07.RationalOrder': WHATEVER THE INPUT: true; the input reads as it did. -/
def rationalOrderSpec : ChangeSpec := { name := "rationalOrder", fn := fun _ => fun
  | [d1, d2, d3] => { results := [.lit (.bool true)], args := [d1, d2, d3] }
  | _ => none }
def rationalOrderRow : OpenClaim := { program := "ytfcibldknamekaa", sum := "abefb781cb21648162c19a7d35912191235bed1f091bda8a37e110852436f8a6", func := "soundpost/soundpostlaw07.RationalOrder", spec := "rationalOrder", apart := false }
def RationalOrderSaid : Prop := rationalOrderRow.holds Try.pinned (OpenSpec.ofChange rationalOrderSpec)

/-- ITS FALSE NEIGHBOUR: 'it returns false'. Refute it at one input. -/
def rationalOrderWrong : ChangeSpec := { name := "rationalOrder", fn := fun _ => fun
  | [d1, d2, d3] => { results := [.lit (.bool false)], args := [d1, d2, d3] }
  | _ => none }
def RationalOrderWrongFalsely : Prop := rationalOrderRow.holds Try.pinned (OpenSpec.ofChange rationalOrderWrong)

/- THE SECOND FORM. 'bulk': how many values and letters a reading holds, each counted each time it is reached (what is shared counts as often as it is met; a slice's spare places count too). A statement '..UptoSaid' is the law's where the arguments, and the package variables that the reading takes, are together of bulk at most 1048576: NARROWER than '..Said'. Prove '..Said' where nothing that the law and all that it calls make is longer than what came in: it says more and counts as full. Else prove '..UptoSaid'. A law counts once. -/
mutual
def uptoBulk {H : Type} : DataW H → Nat
  | .lit (.string bytes) => bytes.length + 1
  | .lit _ => 1
  | .nil => 1
  | .ptr d => uptoBulk d + 1
  | .slice elems spare => uptoBulkAll elems + uptoBulkAll spare + 1
  | .agg parts => uptoBulkAll parts + 1
  | .iface _ d => uptoBulk d + 1
  | .map entries => uptoBulkEntries entries + 1
  | .held _ => 1
def uptoBulkAll {H : Type} : List (DataW H) → Nat
  | [] => 0
  | d :: r => uptoBulk d + uptoBulkAll r
def uptoBulkEntries {H : Type} : List (Lit × DataW H) → Nat
  | [] => 0
  | x :: r => uptoBulkEntry x + uptoBulkEntries r
def uptoBulkEntry {H : Type} : Lit × DataW H → Nat
  | (.string bytes, d) => bytes.length + uptoBulk d + 1
  | (_, d) => uptoBulk d + 1
 end
def uptoSmall : (H : Type) → List (DataW H) → Bool := fun _ ds => decide (uptoBulkAll ds ≤ 1048576)
def OpenSpec.upto (s : _root_.Go.ChangeSpec) : _root_.Go.OpenSpec := { _root_.Go.OpenSpec.ofChange s with cond := some uptoSmall }

/-- 'soundpostlaw07.RationalMakeSpec', WHERE WHAT IT READS IS OF BULK AT MOST 1048576: true; the input reads as it did. -/
def rationalMakeSpecUptoRow : OpenClaim := { program := "ytfcibldknamekaa", sum := "abefb781cb21648162c19a7d35912191235bed1f091bda8a37e110852436f8a6", func := "soundpost/soundpostlaw07.RationalMakeSpec", spec := "rationalMakeSpec", apart := false, narrowed := true }
def RationalMakeSpecUptoSaid : Prop := rationalMakeSpecUptoRow.holds Try.pinned (OpenSpec.upto rationalMakeSpecSpec)

/-- 'soundpostlaw07.RationalReduced', WHERE WHAT IT READS IS OF BULK AT MOST 1048576: true; the input reads as it did. -/
def rationalReducedUptoRow : OpenClaim := { program := "ytfcibldknamekaa", sum := "abefb781cb21648162c19a7d35912191235bed1f091bda8a37e110852436f8a6", func := "soundpost/soundpostlaw07.RationalReduced", spec := "rationalReduced", apart := false, narrowed := true }
def RationalReducedUptoSaid : Prop := rationalReducedUptoRow.holds Try.pinned (OpenSpec.upto rationalReducedSpec)

/-- 'soundpostlaw07.RationalFloor', WHERE WHAT IT READS IS OF BULK AT MOST 1048576: true; the input reads as it did. -/
def rationalFloorUptoRow : OpenClaim := { program := "ytfcibldknamekaa", sum := "abefb781cb21648162c19a7d35912191235bed1f091bda8a37e110852436f8a6", func := "soundpost/soundpostlaw07.RationalFloor", spec := "rationalFloor", apart := false, narrowed := true }
def RationalFloorUptoSaid : Prop := rationalFloorUptoRow.holds Try.pinned (OpenSpec.upto rationalFloorSpec)

/-- 'soundpostlaw07.RationalSpec', WHERE WHAT IT READS IS OF BULK AT MOST 1048576: true; the input reads as it did. -/
def rationalSpecUptoRow : OpenClaim := { program := "ytfcibldknamekaa", sum := "abefb781cb21648162c19a7d35912191235bed1f091bda8a37e110852436f8a6", func := "soundpost/soundpostlaw07.RationalSpec", spec := "rationalSpec", apart := false, narrowed := true }
def RationalSpecUptoSaid : Prop := rationalSpecUptoRow.holds Try.pinned (OpenSpec.upto rationalSpecSpec)

/-- 'soundpostlaw07.RationalField', WHERE WHAT IT READS IS OF BULK AT MOST 1048576: true; the input reads as it did. -/
def rationalFieldUptoRow : OpenClaim := { program := "ytfcibldknamekaa", sum := "abefb781cb21648162c19a7d35912191235bed1f091bda8a37e110852436f8a6", func := "soundpost/soundpostlaw07.RationalField", spec := "rationalField", apart := false, narrowed := true }
def RationalFieldUptoSaid : Prop := rationalFieldUptoRow.holds Try.pinned (OpenSpec.upto rationalFieldSpec)

/-- 'soundpostlaw07.RationalInverse', WHERE WHAT IT READS IS OF BULK AT MOST 1048576: true; the input reads as it did. -/
def rationalInverseUptoRow : OpenClaim := { program := "ytfcibldknamekaa", sum := "abefb781cb21648162c19a7d35912191235bed1f091bda8a37e110852436f8a6", func := "soundpost/soundpostlaw07.RationalInverse", spec := "rationalInverse", apart := false, narrowed := true }
def RationalInverseUptoSaid : Prop := rationalInverseUptoRow.holds Try.pinned (OpenSpec.upto rationalInverseSpec)

/-- 'soundpostlaw07.RationalOrder', WHERE WHAT IT READS IS OF BULK AT MOST 1048576: true; the input reads as it did. -/
def rationalOrderUptoRow : OpenClaim := { program := "ytfcibldknamekaa", sum := "abefb781cb21648162c19a7d35912191235bed1f091bda8a37e110852436f8a6", func := "soundpost/soundpostlaw07.RationalOrder", spec := "rationalOrder", apart := false, narrowed := true }
def RationalOrderUptoSaid : Prop := rationalOrderUptoRow.holds Try.pinned (OpenSpec.upto rationalOrderSpec)

end Rows
end Go.Proofs.Ytfcibldknamekaa
