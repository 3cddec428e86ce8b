/-
  No cell of these rows narrows 'for every input' (looked for: loops, veiled, ifaces, maps, wideKeys, modest, calm, conditions, laid).
  DERIVED. THE GIVEN ROWS OF THIS SEAT. 12 by the template 'for every input the law returns true; each argument reads behind the call as it read before'; 0 by the template 'total and deterministic' (their statements: YtigpgieapamffaaTotals.lean).
  GIVEN WITH THE SEED: the statements are not yours to turn. If you find one false, say at which input.
  Laid BY PROGRAM, IN A SANDBOX (cutbox-rows.mjs): the forced cells as the released guide's own fill.sh prints them over the translation 975f6e92a42b6082… (all of the seat's roots in one cut). By AI agents, Wed Nov 11 2026. No macro, syntax, notation, axiom, sorry.
-/
import Derived.Test.YtigpgieapamffaaChecked
import GoSem.Claim
import GoSem.ClaimJoined
import GoSem.ClaimMapViews
import Derived.JoinedTies
import Derived.KernelRfl
namespace Go.Proofs.Ytigpgieapamffaa
/- THE CELL 'sum', in the pinned program and in every row, IS THE sha256 OF THE DUMP (.gsa) THAT YtigpgieapamffaaProg.lean LOADS. Nothing in Lean hashes anything: it is a label: what it is worth is what the hold of that sum in a sandbox is worth. -/
noncomputable def Try.pinned : Pinned := { name := "ytigpgieapamffaa", sum := "975f6e92a42b6082b61c1eca54879650d116887a4d1136a0b840c684020f06a9", checked := Try.checked }
namespace Rows
def none {H : Type} : Left H := { results := [], args := [] }

/-- 'ringkeep2.ReclaimPuts': WHATEVER THE INPUT: true; the input reads as it did. -/
def reclaimPutsSpec : ChangeSpec := { name := "reclaimPuts", fn := fun _ => fun
  | [d1, d2] => { results := [.lit (.bool true)], args := [d1, d2] }
  | _ => none }
def reclaimPutsRow : OpenClaim := { program := "ytigpgieapamffaa", sum := "975f6e92a42b6082b61c1eca54879650d116887a4d1136a0b840c684020f06a9", func := "ringhall/ringkeep2.ReclaimPuts", spec := "reclaimPuts", inPlace := ["slices.overlaps[ringhall/reclaim.Item]"], unfollowed := true, recurses := true, plainKeys := false, apart := false }
def ReclaimPutsSaid : Prop := reclaimPutsRow.holds Try.pinned (OpenSpec.ofChange reclaimPutsSpec)

/-- ITS FALSE NEIGHBOUR: 'it returns false'. Refute it at one input. -/
def reclaimPutsWrong : ChangeSpec := { name := "reclaimPuts", fn := fun _ => fun
  | [d1, d2] => { results := [.lit (.bool false)], args := [d1, d2] }
  | _ => none }
def ReclaimPutsWrongFalsely : Prop := reclaimPutsRow.holds Try.pinned (OpenSpec.ofChange reclaimPutsWrong)

/-- 'ringkeep2.ReclaimSpares': WHATEVER THE INPUT: true; the input reads as it did. -/
def reclaimSparesSpec : ChangeSpec := { name := "reclaimSpares", fn := fun _ => fun
  | [d] => { results := [.lit (.bool true)], args := [d] }
  | _ => none }
def reclaimSparesRow : OpenClaim := { program := "ytigpgieapamffaa", sum := "975f6e92a42b6082b61c1eca54879650d116887a4d1136a0b840c684020f06a9", func := "ringhall/ringkeep2.ReclaimSpares", spec := "reclaimSpares", inPlace := ["slices.overlaps[ringhall/reclaim.Item]"], unfollowed := true, recurses := true, plainKeys := false, apart := false }
def ReclaimSparesSaid : Prop := reclaimSparesRow.holds Try.pinned (OpenSpec.ofChange reclaimSparesSpec)

/-- ITS FALSE NEIGHBOUR: 'it returns false'. Refute it at one input. -/
def reclaimSparesWrong : ChangeSpec := { name := "reclaimSpares", fn := fun _ => fun
  | [d] => { results := [.lit (.bool false)], args := [d] }
  | _ => none }
def ReclaimSparesWrongFalsely : Prop := reclaimSparesRow.holds Try.pinned (OpenSpec.ofChange reclaimSparesWrong)

/-- 'ringkeep2.ReclaimFirst': WHATEVER THE INPUT: true; the input reads as it did. -/
def reclaimFirstSpec : ChangeSpec := { name := "reclaimFirst", fn := fun _ => fun
  | [d] => { results := [.lit (.bool true)], args := [d] }
  | _ => none }
def reclaimFirstRow : OpenClaim := { program := "ytigpgieapamffaa", sum := "975f6e92a42b6082b61c1eca54879650d116887a4d1136a0b840c684020f06a9", func := "ringhall/ringkeep2.ReclaimFirst", spec := "reclaimFirst", inPlace := ["slices.overlaps[ringhall/reclaim.Item]"], unfollowed := true, recurses := true, plainKeys := false, apart := false }
def ReclaimFirstSaid : Prop := reclaimFirstRow.holds Try.pinned (OpenSpec.ofChange reclaimFirstSpec)

/-- ITS FALSE NEIGHBOUR: 'it returns false'. Refute it at one input. -/
def reclaimFirstWrong : ChangeSpec := { name := "reclaimFirst", fn := fun _ => fun
  | [d] => { results := [.lit (.bool false)], args := [d] }
  | _ => none }
def ReclaimFirstWrongFalsely : Prop := reclaimFirstRow.holds Try.pinned (OpenSpec.ofChange reclaimFirstWrong)

/-- 'ringkeep2.ReclaimStack': WHATEVER THE INPUT: true; the input reads as it did. -/
def reclaimStackSpec : ChangeSpec := { name := "reclaimStack", fn := fun _ => fun
  | [d1, d2, d3] => { results := [.lit (.bool true)], args := [d1, d2, d3] }
  | _ => none }
def reclaimStackRow : OpenClaim := { program := "ytigpgieapamffaa", sum := "975f6e92a42b6082b61c1eca54879650d116887a4d1136a0b840c684020f06a9", func := "ringhall/ringkeep2.ReclaimStack", spec := "reclaimStack", inPlace := ["slices.overlaps[ringhall/reclaim.Item]"], unfollowed := true, recurses := true, plainKeys := false, apart := false }
def ReclaimStackSaid : Prop := reclaimStackRow.holds Try.pinned (OpenSpec.ofChange reclaimStackSpec)

/-- ITS FALSE NEIGHBOUR: 'it returns false'. Refute it at one input. -/
def reclaimStackWrong : ChangeSpec := { name := "reclaimStack", fn := fun _ => fun
  | [d1, d2, d3] => { results := [.lit (.bool false)], args := [d1, d2, d3] }
  | _ => none }
def ReclaimStackWrongFalsely : Prop := reclaimStackRow.holds Try.pinned (OpenSpec.ofChange reclaimStackWrong)

/-- 'ringkeep2.ReclaimTwice': WHATEVER THE INPUT: true; the input reads as it did. -/
def reclaimTwiceSpec : ChangeSpec := { name := "reclaimTwice", fn := fun _ => fun
  | [d1, d2] => { results := [.lit (.bool true)], args := [d1, d2] }
  | _ => none }
def reclaimTwiceRow : OpenClaim := { program := "ytigpgieapamffaa", sum := "975f6e92a42b6082b61c1eca54879650d116887a4d1136a0b840c684020f06a9", func := "ringhall/ringkeep2.ReclaimTwice", spec := "reclaimTwice", inPlace := ["slices.overlaps[ringhall/reclaim.Item]"], unfollowed := true, recurses := true, plainKeys := false, apart := false }
def ReclaimTwiceSaid : Prop := reclaimTwiceRow.holds Try.pinned (OpenSpec.ofChange reclaimTwiceSpec)

/-- ITS FALSE NEIGHBOUR: 'it returns false'. Refute it at one input. -/
def reclaimTwiceWrong : ChangeSpec := { name := "reclaimTwice", fn := fun _ => fun
  | [d1, d2] => { results := [.lit (.bool false)], args := [d1, d2] }
  | _ => none }
def ReclaimTwiceWrongFalsely : Prop := reclaimTwiceRow.holds Try.pinned (OpenSpec.ofChange reclaimTwiceWrong)

/-- 'ringkeep2.ReclaimBest': WHATEVER THE INPUT: true; the input reads as it did. -/
def reclaimBestSpec : ChangeSpec := { name := "reclaimBest", fn := fun _ => fun
  | [d1, d2] => { results := [.lit (.bool true)], args := [d1, d2] }
  | _ => none }
def reclaimBestRow : OpenClaim := { program := "ytigpgieapamffaa", sum := "975f6e92a42b6082b61c1eca54879650d116887a4d1136a0b840c684020f06a9", func := "ringhall/ringkeep2.ReclaimBest", spec := "reclaimBest", inPlace := ["slices.overlaps[ringhall/reclaim.Item]"], unfollowed := true, recurses := true, plainKeys := false, apart := false }
def ReclaimBestSaid : Prop := reclaimBestRow.holds Try.pinned (OpenSpec.ofChange reclaimBestSpec)

/-- ITS FALSE NEIGHBOUR: 'it returns false'. Refute it at one input. -/
def reclaimBestWrong : ChangeSpec := { name := "reclaimBest", fn := fun _ => fun
  | [d1, d2] => { results := [.lit (.bool false)], args := [d1, d2] }
  | _ => none }
def ReclaimBestWrongFalsely : Prop := reclaimBestRow.holds Try.pinned (OpenSpec.ofChange reclaimBestWrong)

/-- 'ringkeep2.ReclaimAll': WHATEVER THE INPUT: true; the input reads as it did. -/
def reclaimAllSpec : ChangeSpec := { name := "reclaimAll", fn := fun _ => fun
  | [d] => { results := [.lit (.bool true)], args := [d] }
  | _ => none }
def reclaimAllRow : OpenClaim := { program := "ytigpgieapamffaa", sum := "975f6e92a42b6082b61c1eca54879650d116887a4d1136a0b840c684020f06a9", func := "ringhall/ringkeep2.ReclaimAll", spec := "reclaimAll", inPlace := ["slices.overlaps[ringhall/reclaim.Item]"], unfollowed := true, recurses := true, plainKeys := false, apart := false }
def ReclaimAllSaid : Prop := reclaimAllRow.holds Try.pinned (OpenSpec.ofChange reclaimAllSpec)

/-- ITS FALSE NEIGHBOUR: 'it returns false'. Refute it at one input. -/
def reclaimAllWrong : ChangeSpec := { name := "reclaimAll", fn := fun _ => fun
  | [d] => { results := [.lit (.bool false)], args := [d] }
  | _ => none }
def ReclaimAllWrongFalsely : Prop := reclaimAllRow.holds Try.pinned (OpenSpec.ofChange reclaimAllWrong)

/-- 'ringkeep2.RmapTwo': WHATEVER THE INPUT: true; the input reads as it did. -/
def rmapTwoSpec : ChangeSpec := { name := "rmapTwo", fn := fun _ => fun
  | [d1, d2, d3] => { results := [.lit (.bool true)], args := [d1, d2, d3] }
  | _ => none }
def rmapTwoRow : OpenClaim := { program := "ytigpgieapamffaa", sum := "975f6e92a42b6082b61c1eca54879650d116887a4d1136a0b840c684020f06a9", func := "ringhall/ringkeep2.RmapTwo", spec := "rmapTwo", inPlace := ["slices.overlaps[ringhall/rmap.Pair]"], unfollowed := true, recurses := true, plainKeys := false, apart := false }
def RmapTwoSaid : Prop := rmapTwoRow.holds Try.pinned (OpenSpec.ofChange rmapTwoSpec)

/-- ITS FALSE NEIGHBOUR: 'it returns false'. Refute it at one input. -/
def rmapTwoWrong : ChangeSpec := { name := "rmapTwo", fn := fun _ => fun
  | [d1, d2, d3] => { results := [.lit (.bool false)], args := [d1, d2, d3] }
  | _ => none }
def RmapTwoWrongFalsely : Prop := rmapTwoRow.holds Try.pinned (OpenSpec.ofChange rmapTwoWrong)

/-- 'ringkeep2.RmapParts': WHATEVER THE INPUT: true; the input reads as it did. -/
def rmapPartsSpec : ChangeSpec := { name := "rmapParts", fn := fun _ => fun
  | [d] => { results := [.lit (.bool true)], args := [d] }
  | _ => none }
def rmapPartsRow : OpenClaim := { program := "ytigpgieapamffaa", sum := "975f6e92a42b6082b61c1eca54879650d116887a4d1136a0b840c684020f06a9", func := "ringhall/ringkeep2.RmapParts", spec := "rmapParts", inPlace := ["slices.overlaps[ringhall/rmap.Pair]"], unfollowed := true, recurses := true, plainKeys := false, apart := false }
def RmapPartsSaid : Prop := rmapPartsRow.holds Try.pinned (OpenSpec.ofChange rmapPartsSpec)

/-- ITS FALSE NEIGHBOUR: 'it returns false'. Refute it at one input. -/
def rmapPartsWrong : ChangeSpec := { name := "rmapParts", fn := fun _ => fun
  | [d] => { results := [.lit (.bool false)], args := [d] }
  | _ => none }
def RmapPartsWrongFalsely : Prop := rmapPartsRow.holds Try.pinned (OpenSpec.ofChange rmapPartsWrong)

/-- 'ringkeep2.RmapTwoWays': WHATEVER THE INPUT: true; the input reads as it did. -/
def rmapTwoWaysSpec : ChangeSpec := { name := "rmapTwoWays", fn := fun _ => fun
  | [d1, d2, d3, d4] => { results := [.lit (.bool true)], args := [d1, d2, d3, d4] }
  | _ => none }
def rmapTwoWaysRow : OpenClaim := { program := "ytigpgieapamffaa", sum := "975f6e92a42b6082b61c1eca54879650d116887a4d1136a0b840c684020f06a9", func := "ringhall/ringkeep2.RmapTwoWays", spec := "rmapTwoWays", inPlace := ["slices.overlaps[ringhall/rmap.Pair]"], unfollowed := true, recurses := true, plainKeys := false, apart := false }
def RmapTwoWaysSaid : Prop := rmapTwoWaysRow.holds Try.pinned (OpenSpec.ofChange rmapTwoWaysSpec)

/-- ITS FALSE NEIGHBOUR: 'it returns false'. Refute it at one input. -/
def rmapTwoWaysWrong : ChangeSpec := { name := "rmapTwoWays", fn := fun _ => fun
  | [d1, d2, d3, d4] => { results := [.lit (.bool false)], args := [d1, d2, d3, d4] }
  | _ => none }
def RmapTwoWaysWrongFalsely : Prop := rmapTwoWaysRow.holds Try.pinned (OpenSpec.ofChange rmapTwoWaysWrong)

/-- 'ringkeep2.RmapTurns': WHATEVER THE INPUT: true; the input reads as it did. -/
def rmapTurnsSpec : ChangeSpec := { name := "rmapTurns", fn := fun _ => fun
  | [d1, d2] => { results := [.lit (.bool true)], args := [d1, d2] }
  | _ => none }
def rmapTurnsRow : OpenClaim := { program := "ytigpgieapamffaa", sum := "975f6e92a42b6082b61c1eca54879650d116887a4d1136a0b840c684020f06a9", func := "ringhall/ringkeep2.RmapTurns", spec := "rmapTurns", inPlace := ["slices.overlaps[ringhall/rmap.Pair]"], unfollowed := true, recurses := true, plainKeys := false, apart := false }
def RmapTurnsSaid : Prop := rmapTurnsRow.holds Try.pinned (OpenSpec.ofChange rmapTurnsSpec)

/-- ITS FALSE NEIGHBOUR: 'it returns false'. Refute it at one input. -/
def rmapTurnsWrong : ChangeSpec := { name := "rmapTurns", fn := fun _ => fun
  | [d1, d2] => { results := [.lit (.bool false)], args := [d1, d2] }
  | _ => none }
def RmapTurnsWrongFalsely : Prop := rmapTurnsRow.holds Try.pinned (OpenSpec.ofChange rmapTurnsWrong)

/-- 'ringkeep2.RmapMoves': WHATEVER THE INPUT: true; the input reads as it did. -/
def rmapMovesSpec : ChangeSpec := { name := "rmapMoves", fn := fun _ => fun
  | [d1, d2, d3, d4, d5] => { results := [.lit (.bool true)], args := [d1, d2, d3, d4, d5] }
  | _ => none }
def rmapMovesRow : OpenClaim := { program := "ytigpgieapamffaa", sum := "975f6e92a42b6082b61c1eca54879650d116887a4d1136a0b840c684020f06a9", func := "ringhall/ringkeep2.RmapMoves", spec := "rmapMoves", inPlace := ["slices.overlaps[ringhall/rmap.Pair]"], unfollowed := true, recurses := true, plainKeys := false, apart := false }
def RmapMovesSaid : Prop := rmapMovesRow.holds Try.pinned (OpenSpec.ofChange rmapMovesSpec)

/-- ITS FALSE NEIGHBOUR: 'it returns false'. Refute it at one input. -/
def rmapMovesWrong : ChangeSpec := { name := "rmapMoves", fn := fun _ => fun
  | [d1, d2, d3, d4, d5] => { results := [.lit (.bool false)], args := [d1, d2, d3, d4, d5] }
  | _ => none }
def RmapMovesWrongFalsely : Prop := rmapMovesRow.holds Try.pinned (OpenSpec.ofChange rmapMovesWrong)

/- THE SECOND FORM. 'bulk': how many values and letters a reading holds, each counted each time it is reached (what is shared counts as often as it is met; a slice's spare places count too). A statement '..UptoSaid' is the law's where the arguments, and the package variables that the reading takes, are together of bulk at most 1048576: NARROWER than '..Said'. Prove '..Said' where nothing that the law and all that it calls make is longer than what came in: it says more and counts as full. Else prove '..UptoSaid'. A law counts once. -/
mutual
def uptoBulk {H : Type} : DataW H → Nat
  | .lit (.string bytes) => bytes.length + 1
  | .lit _ => 1
  | .nil => 1
  | .ptr d => uptoBulk d + 1
  | .slice elems spare => uptoBulkAll elems + uptoBulkAll spare + 1
  | .agg parts => uptoBulkAll parts + 1
  | .iface _ d => uptoBulk d + 1
  | .map entries => uptoBulkEntries entries + 1
  | .held _ => 1
def uptoBulkAll {H : Type} : List (DataW H) → Nat
  | [] => 0
  | d :: r => uptoBulk d + uptoBulkAll r
def uptoBulkEntries {H : Type} : List (Lit × DataW H) → Nat
  | [] => 0
  | x :: r => uptoBulkEntry x + uptoBulkEntries r
def uptoBulkEntry {H : Type} : Lit × DataW H → Nat
  | (.string bytes, d) => bytes.length + uptoBulk d + 1
  | (_, d) => uptoBulk d + 1
 end
def uptoSmall : (H : Type) → List (DataW H) → Bool := fun _ ds => decide (uptoBulkAll ds ≤ 1048576)
def OpenSpec.upto (s : _root_.Go.ChangeSpec) : _root_.Go.OpenSpec := { _root_.Go.OpenSpec.ofChange s with cond := some uptoSmall }

/-- 'ringkeep2.ReclaimPuts', WHERE WHAT IT READS IS OF BULK AT MOST 1048576: true; the input reads as it did. -/
def reclaimPutsUptoRow : OpenClaim := { program := "ytigpgieapamffaa", sum := "975f6e92a42b6082b61c1eca54879650d116887a4d1136a0b840c684020f06a9", func := "ringhall/ringkeep2.ReclaimPuts", spec := "reclaimPuts", inPlace := ["slices.overlaps[ringhall/reclaim.Item]"], unfollowed := true, recurses := true, plainKeys := false, apart := false, narrowed := true }
def ReclaimPutsUptoSaid : Prop := reclaimPutsUptoRow.holds Try.pinned (OpenSpec.upto reclaimPutsSpec)

/-- 'ringkeep2.ReclaimSpares', WHERE WHAT IT READS IS OF BULK AT MOST 1048576: true; the input reads as it did. -/
def reclaimSparesUptoRow : OpenClaim := { program := "ytigpgieapamffaa", sum := "975f6e92a42b6082b61c1eca54879650d116887a4d1136a0b840c684020f06a9", func := "ringhall/ringkeep2.ReclaimSpares", spec := "reclaimSpares", inPlace := ["slices.overlaps[ringhall/reclaim.Item]"], unfollowed := true, recurses := true, plainKeys := false, apart := false, narrowed := true }
def ReclaimSparesUptoSaid : Prop := reclaimSparesUptoRow.holds Try.pinned (OpenSpec.upto reclaimSparesSpec)

/-- 'ringkeep2.ReclaimFirst', WHERE WHAT IT READS IS OF BULK AT MOST 1048576: true; the input reads as it did. -/
def reclaimFirstUptoRow : OpenClaim := { program := "ytigpgieapamffaa", sum := "975f6e92a42b6082b61c1eca54879650d116887a4d1136a0b840c684020f06a9", func := "ringhall/ringkeep2.ReclaimFirst", spec := "reclaimFirst", inPlace := ["slices.overlaps[ringhall/reclaim.Item]"], unfollowed := true, recurses := true, plainKeys := false, apart := false, narrowed := true }
def ReclaimFirstUptoSaid : Prop := reclaimFirstUptoRow.holds Try.pinned (OpenSpec.upto reclaimFirstSpec)

/-- 'ringkeep2.ReclaimStack', WHERE WHAT IT READS IS OF BULK AT MOST 1048576: true; the input reads as it did. -/
def reclaimStackUptoRow : OpenClaim := { program := "ytigpgieapamffaa", sum := "975f6e92a42b6082b61c1eca54879650d116887a4d1136a0b840c684020f06a9", func := "ringhall/ringkeep2.ReclaimStack", spec := "reclaimStack", inPlace := ["slices.overlaps[ringhall/reclaim.Item]"], unfollowed := true, recurses := true, plainKeys := false, apart := false, narrowed := true }
def ReclaimStackUptoSaid : Prop := reclaimStackUptoRow.holds Try.pinned (OpenSpec.upto reclaimStackSpec)

/-- 'ringkeep2.ReclaimTwice', WHERE WHAT IT READS IS OF BULK AT MOST 1048576: true; the input reads as it did. -/
def reclaimTwiceUptoRow : OpenClaim := { program := "ytigpgieapamffaa", sum := "975f6e92a42b6082b61c1eca54879650d116887a4d1136a0b840c684020f06a9", func := "ringhall/ringkeep2.ReclaimTwice", spec := "reclaimTwice", inPlace := ["slices.overlaps[ringhall/reclaim.Item]"], unfollowed := true, recurses := true, plainKeys := false, apart := false, narrowed := true }
def ReclaimTwiceUptoSaid : Prop := reclaimTwiceUptoRow.holds Try.pinned (OpenSpec.upto reclaimTwiceSpec)

/-- 'ringkeep2.ReclaimBest', WHERE WHAT IT READS IS OF BULK AT MOST 1048576: true; the input reads as it did. -/
def reclaimBestUptoRow : OpenClaim := { program := "ytigpgieapamffaa", sum := "975f6e92a42b6082b61c1eca54879650d116887a4d1136a0b840c684020f06a9", func := "ringhall/ringkeep2.ReclaimBest", spec := "reclaimBest", inPlace := ["slices.overlaps[ringhall/reclaim.Item]"], unfollowed := true, recurses := true, plainKeys := false, apart := false, narrowed := true }
def ReclaimBestUptoSaid : Prop := reclaimBestUptoRow.holds Try.pinned (OpenSpec.upto reclaimBestSpec)

/-- 'ringkeep2.ReclaimAll', WHERE WHAT IT READS IS OF BULK AT MOST 1048576: true; the input reads as it did. -/
def reclaimAllUptoRow : OpenClaim := { program := "ytigpgieapamffaa", sum := "975f6e92a42b6082b61c1eca54879650d116887a4d1136a0b840c684020f06a9", func := "ringhall/ringkeep2.ReclaimAll", spec := "reclaimAll", inPlace := ["slices.overlaps[ringhall/reclaim.Item]"], unfollowed := true, recurses := true, plainKeys := false, apart := false, narrowed := true }
def ReclaimAllUptoSaid : Prop := reclaimAllUptoRow.holds Try.pinned (OpenSpec.upto reclaimAllSpec)

/-- 'ringkeep2.RmapTwo', WHERE WHAT IT READS IS OF BULK AT MOST 1048576: true; the input reads as it did. -/
def rmapTwoUptoRow : OpenClaim := { program := "ytigpgieapamffaa", sum := "975f6e92a42b6082b61c1eca54879650d116887a4d1136a0b840c684020f06a9", func := "ringhall/ringkeep2.RmapTwo", spec := "rmapTwo", inPlace := ["slices.overlaps[ringhall/rmap.Pair]"], unfollowed := true, recurses := true, plainKeys := false, apart := false, narrowed := true }
def RmapTwoUptoSaid : Prop := rmapTwoUptoRow.holds Try.pinned (OpenSpec.upto rmapTwoSpec)

/-- 'ringkeep2.RmapParts', WHERE WHAT IT READS IS OF BULK AT MOST 1048576: true; the input reads as it did. -/
def rmapPartsUptoRow : OpenClaim := { program := "ytigpgieapamffaa", sum := "975f6e92a42b6082b61c1eca54879650d116887a4d1136a0b840c684020f06a9", func := "ringhall/ringkeep2.RmapParts", spec := "rmapParts", inPlace := ["slices.overlaps[ringhall/rmap.Pair]"], unfollowed := true, recurses := true, plainKeys := false, apart := false, narrowed := true }
def RmapPartsUptoSaid : Prop := rmapPartsUptoRow.holds Try.pinned (OpenSpec.upto rmapPartsSpec)

/-- 'ringkeep2.RmapTwoWays', WHERE WHAT IT READS IS OF BULK AT MOST 1048576: true; the input reads as it did. -/
def rmapTwoWaysUptoRow : OpenClaim := { program := "ytigpgieapamffaa", sum := "975f6e92a42b6082b61c1eca54879650d116887a4d1136a0b840c684020f06a9", func := "ringhall/ringkeep2.RmapTwoWays", spec := "rmapTwoWays", inPlace := ["slices.overlaps[ringhall/rmap.Pair]"], unfollowed := true, recurses := true, plainKeys := false, apart := false, narrowed := true }
def RmapTwoWaysUptoSaid : Prop := rmapTwoWaysUptoRow.holds Try.pinned (OpenSpec.upto rmapTwoWaysSpec)

/-- 'ringkeep2.RmapTurns', WHERE WHAT IT READS IS OF BULK AT MOST 1048576: true; the input reads as it did. -/
def rmapTurnsUptoRow : OpenClaim := { program := "ytigpgieapamffaa", sum := "975f6e92a42b6082b61c1eca54879650d116887a4d1136a0b840c684020f06a9", func := "ringhall/ringkeep2.RmapTurns", spec := "rmapTurns", inPlace := ["slices.overlaps[ringhall/rmap.Pair]"], unfollowed := true, recurses := true, plainKeys := false, apart := false, narrowed := true }
def RmapTurnsUptoSaid : Prop := rmapTurnsUptoRow.holds Try.pinned (OpenSpec.upto rmapTurnsSpec)

/-- 'ringkeep2.RmapMoves', WHERE WHAT IT READS IS OF BULK AT MOST 1048576: true; the input reads as it did. -/
def rmapMovesUptoRow : OpenClaim := { program := "ytigpgieapamffaa", sum := "975f6e92a42b6082b61c1eca54879650d116887a4d1136a0b840c684020f06a9", func := "ringhall/ringkeep2.RmapMoves", spec := "rmapMoves", inPlace := ["slices.overlaps[ringhall/rmap.Pair]"], unfollowed := true, recurses := true, plainKeys := false, apart := false, narrowed := true }
def RmapMovesUptoSaid : Prop := rmapMovesUptoRow.holds Try.pinned (OpenSpec.upto rmapMovesSpec)

end Rows
end Go.Proofs.Ytigpgieapamffaa
