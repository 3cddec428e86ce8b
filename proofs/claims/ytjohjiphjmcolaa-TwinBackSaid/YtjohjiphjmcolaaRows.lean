/-
  No cell of these rows narrows 'for every input' (looked for: loops, veiled, ifaces, maps, wideKeys, modest, calm, conditions, laid).
  DERIVED. THE GIVEN ROWS OF THIS SEAT. 10 by the template 'for every input the law returns true; each argument reads behind the call as it read before'; 0 by the template 'total and deterministic' (their statements: YtjohjiphjmcolaaTotals.lean).
  GIVEN WITH THE SEED: the statements are not yours to turn. If you find one false, say at which input.
  Laid BY PROGRAM, IN A SANDBOX (cutbox-rows.mjs): the forced cells as the released guide's own fill.sh prints them over the translation 14144dc0f8dbe05e… (all of the seat's roots in one cut). By AI agents, Wed Nov 11 2026. No macro, syntax, notation, axiom, sorry.
-/
import Derived.Test.YtjohjiphjmcolaaChecked
import GoSem.Claim
import GoSem.ClaimJoined
import GoSem.ClaimMapViews
import Derived.JoinedTies
import Derived.KernelRfl
namespace Go.Proofs.Ytjohjiphjmcolaa
/- THE CELL 'sum', in the pinned program and in every row, IS THE sha256 OF THE DUMP (.gsa) THAT YtjohjiphjmcolaaProg.lean LOADS. Nothing in Lean hashes anything: it is a label: what it is worth is what the hold of that sum in a sandbox is worth. -/
noncomputable def Try.pinned : Pinned := { name := "ytjohjiphjmcolaa", sum := "14144dc0f8dbe05e35f80f6987ce929a5de80898c542bac5aa1fb9977c28ebcb", checked := Try.checked }
namespace Rows
def none {H : Type} : Left H := { results := [], args := [] }

/-- 'ringkeep2.AreaPuts': WHATEVER THE INPUT: true; the input reads as it did. -/
def areaPutsSpec : ChangeSpec := { name := "areaPuts", fn := fun _ => fun
  | [d1, d2, d3] => { results := [.lit (.bool true)], args := [d1, d2, d3] }
  | _ => none }
def areaPutsRow : OpenClaim := { program := "ytjohjiphjmcolaa", sum := "14144dc0f8dbe05e35f80f6987ce929a5de80898c542bac5aa1fb9977c28ebcb", func := "ringhall/ringkeep2.AreaPuts", spec := "areaPuts", inPlace := ["slices.overlaps[ringhall/area.Area]"], apart := false }
def AreaPutsSaid : Prop := areaPutsRow.holds Try.pinned (OpenSpec.ofChange areaPutsSpec)

/-- ITS FALSE NEIGHBOUR: 'it returns false'. Refute it at one input. -/
def areaPutsWrong : ChangeSpec := { name := "areaPuts", fn := fun _ => fun
  | [d1, d2, d3] => { results := [.lit (.bool false)], args := [d1, d2, d3] }
  | _ => none }
def AreaPutsWrongFalsely : Prop := areaPutsRow.holds Try.pinned (OpenSpec.ofChange areaPutsWrong)

/-- 'ringkeep2.AreaGaps': WHATEVER THE INPUT: true; the input reads as it did. -/
def areaGapsSpec : ChangeSpec := { name := "areaGaps", fn := fun _ => fun
  | [d1, d2, d3] => { results := [.lit (.bool true)], args := [d1, d2, d3] }
  | _ => none }
def areaGapsRow : OpenClaim := { program := "ytjohjiphjmcolaa", sum := "14144dc0f8dbe05e35f80f6987ce929a5de80898c542bac5aa1fb9977c28ebcb", func := "ringhall/ringkeep2.AreaGaps", spec := "areaGaps", inPlace := ["slices.overlaps[ringhall/area.Area]"], apart := false }
def AreaGapsSaid : Prop := areaGapsRow.holds Try.pinned (OpenSpec.ofChange areaGapsSpec)

/-- ITS FALSE NEIGHBOUR: 'it returns false'. Refute it at one input. -/
def areaGapsWrong : ChangeSpec := { name := "areaGaps", fn := fun _ => fun
  | [d1, d2, d3] => { results := [.lit (.bool false)], args := [d1, d2, d3] }
  | _ => none }
def AreaGapsWrongFalsely : Prop := areaGapsRow.holds Try.pinned (OpenSpec.ofChange areaGapsWrong)

/-- 'ringkeep2.AreaTwo': WHATEVER THE INPUT: true; the input reads as it did. -/
def areaTwoSpec : ChangeSpec := { name := "areaTwo", fn := fun _ => fun
  | [d1, d2, d3] => { results := [.lit (.bool true)], args := [d1, d2, d3] }
  | _ => none }
def areaTwoRow : OpenClaim := { program := "ytjohjiphjmcolaa", sum := "14144dc0f8dbe05e35f80f6987ce929a5de80898c542bac5aa1fb9977c28ebcb", func := "ringhall/ringkeep2.AreaTwo", spec := "areaTwo", inPlace := ["slices.overlaps[ringhall/area.Area]"], unfollowed := true, recurses := true, apart := false }
def AreaTwoSaid : Prop := areaTwoRow.holds Try.pinned (OpenSpec.ofChange areaTwoSpec)

/-- ITS FALSE NEIGHBOUR: 'it returns false'. Refute it at one input. -/
def areaTwoWrong : ChangeSpec := { name := "areaTwo", fn := fun _ => fun
  | [d1, d2, d3] => { results := [.lit (.bool false)], args := [d1, d2, d3] }
  | _ => none }
def AreaTwoWrongFalsely : Prop := areaTwoRow.holds Try.pinned (OpenSpec.ofChange areaTwoWrong)

/-- 'ringkeep2.AreaBack': WHATEVER THE INPUT: true; the input reads as it did. -/
def areaBackSpec : ChangeSpec := { name := "areaBack", fn := fun _ => fun
  | [d1, d2] => { results := [.lit (.bool true)], args := [d1, d2] }
  | _ => none }
def areaBackRow : OpenClaim := { program := "ytjohjiphjmcolaa", sum := "14144dc0f8dbe05e35f80f6987ce929a5de80898c542bac5aa1fb9977c28ebcb", func := "ringhall/ringkeep2.AreaBack", spec := "areaBack", inPlace := ["slices.overlaps[ringhall/area.Area]"], apart := false }
def AreaBackSaid : Prop := areaBackRow.holds Try.pinned (OpenSpec.ofChange areaBackSpec)

/-- ITS FALSE NEIGHBOUR: 'it returns false'. Refute it at one input. -/
def areaBackWrong : ChangeSpec := { name := "areaBack", fn := fun _ => fun
  | [d1, d2] => { results := [.lit (.bool false)], args := [d1, d2] }
  | _ => none }
def AreaBackWrongFalsely : Prop := areaBackRow.holds Try.pinned (OpenSpec.ofChange areaBackWrong)

/-- 'ringkeep2.AreaTurns': WHATEVER THE INPUT: true; the input reads as it did. -/
def areaTurnsSpec : ChangeSpec := { name := "areaTurns", fn := fun _ => fun
  | [d1, d2, d3, d4] => { results := [.lit (.bool true)], args := [d1, d2, d3, d4] }
  | _ => none }
def areaTurnsRow : OpenClaim := { program := "ytjohjiphjmcolaa", sum := "14144dc0f8dbe05e35f80f6987ce929a5de80898c542bac5aa1fb9977c28ebcb", func := "ringhall/ringkeep2.AreaTurns", spec := "areaTurns", inPlace := ["slices.overlaps[ringhall/area.Area]"], apart := false }
def AreaTurnsSaid : Prop := areaTurnsRow.holds Try.pinned (OpenSpec.ofChange areaTurnsSpec)

/-- ITS FALSE NEIGHBOUR: 'it returns false'. Refute it at one input. -/
def areaTurnsWrong : ChangeSpec := { name := "areaTurns", fn := fun _ => fun
  | [d1, d2, d3, d4] => { results := [.lit (.bool false)], args := [d1, d2, d3, d4] }
  | _ => none }
def AreaTurnsWrongFalsely : Prop := areaTurnsRow.holds Try.pinned (OpenSpec.ofChange areaTurnsWrong)

/-- 'ringkeep2.TwinTwo': WHATEVER THE INPUT: true; the input reads as it did. -/
def twinTwoSpec : ChangeSpec := { name := "twinTwo", fn := fun _ => fun
  | [d1, d2, d3, d4, d5] => { results := [.lit (.bool true)], args := [d1, d2, d3, d4, d5] }
  | _ => none }
def twinTwoRow : OpenClaim := { program := "ytjohjiphjmcolaa", sum := "14144dc0f8dbe05e35f80f6987ce929a5de80898c542bac5aa1fb9977c28ebcb", func := "ringhall/ringkeep2.TwinTwo", spec := "twinTwo", inPlace := ["slices.overlaps[ringhall/twin.Room]"], unfollowed := true, recurses := true, apart := false }
def TwinTwoSaid : Prop := twinTwoRow.holds Try.pinned (OpenSpec.ofChange twinTwoSpec)

/-- ITS FALSE NEIGHBOUR: 'it returns false'. Refute it at one input. -/
def twinTwoWrong : ChangeSpec := { name := "twinTwo", fn := fun _ => fun
  | [d1, d2, d3, d4, d5] => { results := [.lit (.bool false)], args := [d1, d2, d3, d4, d5] }
  | _ => none }
def TwinTwoWrongFalsely : Prop := twinTwoRow.holds Try.pinned (OpenSpec.ofChange twinTwoWrong)

/-- 'ringkeep2.TwinTakes': WHATEVER THE INPUT: true; the input reads as it did. -/
def twinTakesSpec : ChangeSpec := { name := "twinTakes", fn := fun _ => fun
  | [d1, d2] => { results := [.lit (.bool true)], args := [d1, d2] }
  | _ => none }
def twinTakesRow : OpenClaim := { program := "ytjohjiphjmcolaa", sum := "14144dc0f8dbe05e35f80f6987ce929a5de80898c542bac5aa1fb9977c28ebcb", func := "ringhall/ringkeep2.TwinTakes", spec := "twinTakes", inPlace := ["slices.overlaps[ringhall/twin.Room]"], apart := false }
def TwinTakesSaid : Prop := twinTakesRow.holds Try.pinned (OpenSpec.ofChange twinTakesSpec)

/-- ITS FALSE NEIGHBOUR: 'it returns false'. Refute it at one input. -/
def twinTakesWrong : ChangeSpec := { name := "twinTakes", fn := fun _ => fun
  | [d1, d2] => { results := [.lit (.bool false)], args := [d1, d2] }
  | _ => none }
def TwinTakesWrongFalsely : Prop := twinTakesRow.holds Try.pinned (OpenSpec.ofChange twinTakesWrong)

/-- 'ringkeep2.TwinFull': WHATEVER THE INPUT: true; the input reads as it did. -/
def twinFullSpec : ChangeSpec := { name := "twinFull", fn := fun _ => fun
  | [d1, d2] => { results := [.lit (.bool true)], args := [d1, d2] }
  | _ => none }
def twinFullRow : OpenClaim := { program := "ytjohjiphjmcolaa", sum := "14144dc0f8dbe05e35f80f6987ce929a5de80898c542bac5aa1fb9977c28ebcb", func := "ringhall/ringkeep2.TwinFull", spec := "twinFull", inPlace := ["slices.overlaps[ringhall/twin.Room]"], apart := false }
def TwinFullSaid : Prop := twinFullRow.holds Try.pinned (OpenSpec.ofChange twinFullSpec)

/-- ITS FALSE NEIGHBOUR: 'it returns false'. Refute it at one input. -/
def twinFullWrong : ChangeSpec := { name := "twinFull", fn := fun _ => fun
  | [d1, d2] => { results := [.lit (.bool false)], args := [d1, d2] }
  | _ => none }
def TwinFullWrongFalsely : Prop := twinFullRow.holds Try.pinned (OpenSpec.ofChange twinFullWrong)

/-- 'ringkeep2.TwinBack': WHATEVER THE INPUT: true; the input reads as it did. -/
def twinBackSpec : ChangeSpec := { name := "twinBack", fn := fun _ => fun
  | [d1, d2] => { results := [.lit (.bool true)], args := [d1, d2] }
  | _ => none }
def twinBackRow : OpenClaim := { program := "ytjohjiphjmcolaa", sum := "14144dc0f8dbe05e35f80f6987ce929a5de80898c542bac5aa1fb9977c28ebcb", func := "ringhall/ringkeep2.TwinBack", spec := "twinBack", inPlace := ["slices.overlaps[ringhall/twin.Room]"], unfollowed := true, recurses := true, apart := false }
def TwinBackSaid : Prop := twinBackRow.holds Try.pinned (OpenSpec.ofChange twinBackSpec)

/-- ITS FALSE NEIGHBOUR: 'it returns false'. Refute it at one input. -/
def twinBackWrong : ChangeSpec := { name := "twinBack", fn := fun _ => fun
  | [d1, d2] => { results := [.lit (.bool false)], args := [d1, d2] }
  | _ => none }
def TwinBackWrongFalsely : Prop := twinBackRow.holds Try.pinned (OpenSpec.ofChange twinBackWrong)

/-- 'ringkeep2.TwinAll': WHATEVER THE INPUT: true; the input reads as it did. -/
def twinAllSpec : ChangeSpec := { name := "twinAll", fn := fun _ => fun
  | [d1, d2, d3] => { results := [.lit (.bool true)], args := [d1, d2, d3] }
  | _ => none }
def twinAllRow : OpenClaim := { program := "ytjohjiphjmcolaa", sum := "14144dc0f8dbe05e35f80f6987ce929a5de80898c542bac5aa1fb9977c28ebcb", func := "ringhall/ringkeep2.TwinAll", spec := "twinAll", inPlace := ["slices.overlaps[ringhall/twin.Room]"], unfollowed := true, recurses := true, apart := false }
def TwinAllSaid : Prop := twinAllRow.holds Try.pinned (OpenSpec.ofChange twinAllSpec)

/-- ITS FALSE NEIGHBOUR: 'it returns false'. Refute it at one input. -/
def twinAllWrong : ChangeSpec := { name := "twinAll", fn := fun _ => fun
  | [d1, d2, d3] => { results := [.lit (.bool false)], args := [d1, d2, d3] }
  | _ => none }
def TwinAllWrongFalsely : Prop := twinAllRow.holds Try.pinned (OpenSpec.ofChange twinAllWrong)

/- THE SECOND FORM. 'bulk': how many values and letters a reading holds, each counted each time it is reached (what is shared counts as often as it is met; a slice's spare places count too). A statement '..UptoSaid' is the law's where the arguments, and the package variables that the reading takes, are together of bulk at most 1048576: NARROWER than '..Said'. Prove '..Said' where nothing that the law and all that it calls make is longer than what came in: it says more and counts as full. Else prove '..UptoSaid'. A law counts once. -/
mutual
def uptoBulk {H : Type} : DataW H → Nat
  | .lit (.string bytes) => bytes.length + 1
  | .lit _ => 1
  | .nil => 1
  | .ptr d => uptoBulk d + 1
  | .slice elems spare => uptoBulkAll elems + uptoBulkAll spare + 1
  | .agg parts => uptoBulkAll parts + 1
  | .iface _ d => uptoBulk d + 1
  | .map entries => uptoBulkEntries entries + 1
  | .held _ => 1
def uptoBulkAll {H : Type} : List (DataW H) → Nat
  | [] => 0
  | d :: r => uptoBulk d + uptoBulkAll r
def uptoBulkEntries {H : Type} : List (Lit × DataW H) → Nat
  | [] => 0
  | x :: r => uptoBulkEntry x + uptoBulkEntries r
def uptoBulkEntry {H : Type} : Lit × DataW H → Nat
  | (.string bytes, d) => bytes.length + uptoBulk d + 1
  | (_, d) => uptoBulk d + 1
 end
def uptoSmall : (H : Type) → List (DataW H) → Bool := fun _ ds => decide (uptoBulkAll ds ≤ 1048576)
def OpenSpec.upto (s : _root_.Go.ChangeSpec) : _root_.Go.OpenSpec := { _root_.Go.OpenSpec.ofChange s with cond := some uptoSmall }

/-- 'ringkeep2.AreaPuts', WHERE WHAT IT READS IS OF BULK AT MOST 1048576: true; the input reads as it did. -/
def areaPutsUptoRow : OpenClaim := { program := "ytjohjiphjmcolaa", sum := "14144dc0f8dbe05e35f80f6987ce929a5de80898c542bac5aa1fb9977c28ebcb", func := "ringhall/ringkeep2.AreaPuts", spec := "areaPuts", inPlace := ["slices.overlaps[ringhall/area.Area]"], apart := false, narrowed := true }
def AreaPutsUptoSaid : Prop := areaPutsUptoRow.holds Try.pinned (OpenSpec.upto areaPutsSpec)

/-- 'ringkeep2.AreaGaps', WHERE WHAT IT READS IS OF BULK AT MOST 1048576: true; the input reads as it did. -/
def areaGapsUptoRow : OpenClaim := { program := "ytjohjiphjmcolaa", sum := "14144dc0f8dbe05e35f80f6987ce929a5de80898c542bac5aa1fb9977c28ebcb", func := "ringhall/ringkeep2.AreaGaps", spec := "areaGaps", inPlace := ["slices.overlaps[ringhall/area.Area]"], apart := false, narrowed := true }
def AreaGapsUptoSaid : Prop := areaGapsUptoRow.holds Try.pinned (OpenSpec.upto areaGapsSpec)

/-- 'ringkeep2.AreaTwo', WHERE WHAT IT READS IS OF BULK AT MOST 1048576: true; the input reads as it did. -/
def areaTwoUptoRow : OpenClaim := { program := "ytjohjiphjmcolaa", sum := "14144dc0f8dbe05e35f80f6987ce929a5de80898c542bac5aa1fb9977c28ebcb", func := "ringhall/ringkeep2.AreaTwo", spec := "areaTwo", inPlace := ["slices.overlaps[ringhall/area.Area]"], unfollowed := true, recurses := true, apart := false, narrowed := true }
def AreaTwoUptoSaid : Prop := areaTwoUptoRow.holds Try.pinned (OpenSpec.upto areaTwoSpec)

/-- 'ringkeep2.AreaBack', WHERE WHAT IT READS IS OF BULK AT MOST 1048576: true; the input reads as it did. -/
def areaBackUptoRow : OpenClaim := { program := "ytjohjiphjmcolaa", sum := "14144dc0f8dbe05e35f80f6987ce929a5de80898c542bac5aa1fb9977c28ebcb", func := "ringhall/ringkeep2.AreaBack", spec := "areaBack", inPlace := ["slices.overlaps[ringhall/area.Area]"], apart := false, narrowed := true }
def AreaBackUptoSaid : Prop := areaBackUptoRow.holds Try.pinned (OpenSpec.upto areaBackSpec)

/-- 'ringkeep2.AreaTurns', WHERE WHAT IT READS IS OF BULK AT MOST 1048576: true; the input reads as it did. -/
def areaTurnsUptoRow : OpenClaim := { program := "ytjohjiphjmcolaa", sum := "14144dc0f8dbe05e35f80f6987ce929a5de80898c542bac5aa1fb9977c28ebcb", func := "ringhall/ringkeep2.AreaTurns", spec := "areaTurns", inPlace := ["slices.overlaps[ringhall/area.Area]"], apart := false, narrowed := true }
def AreaTurnsUptoSaid : Prop := areaTurnsUptoRow.holds Try.pinned (OpenSpec.upto areaTurnsSpec)

/-- 'ringkeep2.TwinTwo', WHERE WHAT IT READS IS OF BULK AT MOST 1048576: true; the input reads as it did. -/
def twinTwoUptoRow : OpenClaim := { program := "ytjohjiphjmcolaa", sum := "14144dc0f8dbe05e35f80f6987ce929a5de80898c542bac5aa1fb9977c28ebcb", func := "ringhall/ringkeep2.TwinTwo", spec := "twinTwo", inPlace := ["slices.overlaps[ringhall/twin.Room]"], unfollowed := true, recurses := true, apart := false, narrowed := true }
def TwinTwoUptoSaid : Prop := twinTwoUptoRow.holds Try.pinned (OpenSpec.upto twinTwoSpec)

/-- 'ringkeep2.TwinTakes', WHERE WHAT IT READS IS OF BULK AT MOST 1048576: true; the input reads as it did. -/
def twinTakesUptoRow : OpenClaim := { program := "ytjohjiphjmcolaa", sum := "14144dc0f8dbe05e35f80f6987ce929a5de80898c542bac5aa1fb9977c28ebcb", func := "ringhall/ringkeep2.TwinTakes", spec := "twinTakes", inPlace := ["slices.overlaps[ringhall/twin.Room]"], apart := false, narrowed := true }
def TwinTakesUptoSaid : Prop := twinTakesUptoRow.holds Try.pinned (OpenSpec.upto twinTakesSpec)

/-- 'ringkeep2.TwinFull', WHERE WHAT IT READS IS OF BULK AT MOST 1048576: true; the input reads as it did. -/
def twinFullUptoRow : OpenClaim := { program := "ytjohjiphjmcolaa", sum := "14144dc0f8dbe05e35f80f6987ce929a5de80898c542bac5aa1fb9977c28ebcb", func := "ringhall/ringkeep2.TwinFull", spec := "twinFull", inPlace := ["slices.overlaps[ringhall/twin.Room]"], apart := false, narrowed := true }
def TwinFullUptoSaid : Prop := twinFullUptoRow.holds Try.pinned (OpenSpec.upto twinFullSpec)

/-- 'ringkeep2.TwinBack', WHERE WHAT IT READS IS OF BULK AT MOST 1048576: true; the input reads as it did. -/
def twinBackUptoRow : OpenClaim := { program := "ytjohjiphjmcolaa", sum := "14144dc0f8dbe05e35f80f6987ce929a5de80898c542bac5aa1fb9977c28ebcb", func := "ringhall/ringkeep2.TwinBack", spec := "twinBack", inPlace := ["slices.overlaps[ringhall/twin.Room]"], unfollowed := true, recurses := true, apart := false, narrowed := true }
def TwinBackUptoSaid : Prop := twinBackUptoRow.holds Try.pinned (OpenSpec.upto twinBackSpec)

/-- 'ringkeep2.TwinAll', WHERE WHAT IT READS IS OF BULK AT MOST 1048576: true; the input reads as it did. -/
def twinAllUptoRow : OpenClaim := { program := "ytjohjiphjmcolaa", sum := "14144dc0f8dbe05e35f80f6987ce929a5de80898c542bac5aa1fb9977c28ebcb", func := "ringhall/ringkeep2.TwinAll", spec := "twinAll", inPlace := ["slices.overlaps[ringhall/twin.Room]"], unfollowed := true, recurses := true, apart := false, narrowed := true }
def TwinAllUptoSaid : Prop := twinAllUptoRow.holds Try.pinned (OpenSpec.upto twinAllSpec)

end Rows
end Go.Proofs.Ytjohjiphjmcolaa
