/-
  No cell of these rows narrows 'for every input' (looked for: loops, veiled, ifaces, maps, wideKeys, modest, calm, conditions, laid).
  DERIVED. THE GIVEN ROWS OF THIS SEAT. 12 by the template 'for every input the law returns true; each argument reads behind the call as it read before'; 0 by the template 'total and deterministic' (their statements: YtegjbfcgbfnldaaTotals.lean).
  GIVEN WITH THE SEED: the statements are not yours to turn. If you find one false, say at which input.
  Laid BY PROGRAM, IN A SANDBOX (cutbox-rows.mjs): the forced cells as the released guide's own fill.sh prints them over the translation 4da716680b2d5e9f… (all of the seat's roots in one cut). By AI agents, Wed Nov 11 2026. No macro, syntax, notation, axiom, sorry.
-/
import Derived.Test.YtegjbfcgbfnldaaChecked
import GoSem.Claim
import GoSem.ClaimJoined
import GoSem.ClaimMapViews
import Derived.JoinedTies
import Derived.KernelRfl
namespace Go.Proofs.Ytegjbfcgbfnldaa
/- THE CELL 'sum', in the pinned program and in every row, IS THE sha256 OF THE DUMP (.gsa) THAT YtegjbfcgbfnldaaProg.lean LOADS. Nothing in Lean hashes anything: it is a label: what it is worth is what the hold of that sum in a sandbox is worth. -/
noncomputable def Try.pinned : Pinned := { name := "ytegjbfcgbfnldaa", sum := "4da716680b2d5e9fccc70d61c47cfe60b4df344238f03cafb0f80b18608f42fa", checked := Try.checked }
namespace Rows
def none {H : Type} : Left H := { results := [], args := [] }

/-- 'ringkeep2.SpaceZero': WHATEVER THE INPUT: true; the input reads as it did. -/
def spaceZeroSpec : ChangeSpec := { name := "spaceZero", fn := fun _ => fun
  | [d1, d2, d3, d4, d5, d6] => { results := [.lit (.bool true)], args := [d1, d2, d3, d4, d5, d6] }
  | _ => none }
def spaceZeroRow : OpenClaim := { program := "ytegjbfcgbfnldaa", sum := "4da716680b2d5e9fccc70d61c47cfe60b4df344238f03cafb0f80b18608f42fa", func := "ringhall/ringkeep2.SpaceZero", spec := "spaceZero", unfollowed := true, recurses := true, apart := false }
def SpaceZeroSaid : Prop := spaceZeroRow.holds Try.pinned (OpenSpec.ofChange spaceZeroSpec)

/-- ITS FALSE NEIGHBOUR: 'it returns false'. Refute it at one input. -/
def spaceZeroWrong : ChangeSpec := { name := "spaceZero", fn := fun _ => fun
  | [d1, d2, d3, d4, d5, d6] => { results := [.lit (.bool false)], args := [d1, d2, d3, d4, d5, d6] }
  | _ => none }
def SpaceZeroWrongFalsely : Prop := spaceZeroRow.holds Try.pinned (OpenSpec.ofChange spaceZeroWrong)

/-- 'ringkeep2.SpaceBytes': WHATEVER THE INPUT: true; the input reads as it did. -/
def spaceBytesSpec : ChangeSpec := { name := "spaceBytes", fn := fun _ => fun
  | [d1, d2, d3, d4, d5, d6, d7] => { results := [.lit (.bool true)], args := [d1, d2, d3, d4, d5, d6, d7] }
  | _ => none }
def spaceBytesRow : OpenClaim := { program := "ytegjbfcgbfnldaa", sum := "4da716680b2d5e9fccc70d61c47cfe60b4df344238f03cafb0f80b18608f42fa", func := "ringhall/ringkeep2.SpaceBytes", spec := "spaceBytes", unfollowed := true, recurses := true, apart := false }
def SpaceBytesSaid : Prop := spaceBytesRow.holds Try.pinned (OpenSpec.ofChange spaceBytesSpec)

/-- ITS FALSE NEIGHBOUR: 'it returns false'. Refute it at one input. -/
def spaceBytesWrong : ChangeSpec := { name := "spaceBytes", fn := fun _ => fun
  | [d1, d2, d3, d4, d5, d6, d7] => { results := [.lit (.bool false)], args := [d1, d2, d3, d4, d5, d6, d7] }
  | _ => none }
def SpaceBytesWrongFalsely : Prop := spaceBytesRow.holds Try.pinned (OpenSpec.ofChange spaceBytesWrong)

/-- 'ringkeep2.SpaceRights': WHATEVER THE INPUT: true; the input reads as it did. -/
def spaceRightsSpec : ChangeSpec := { name := "spaceRights", fn := fun _ => fun
  | [d1, d2, d3, d4, d5, d6, d7, d8] => { results := [.lit (.bool true)], args := [d1, d2, d3, d4, d5, d6, d7, d8] }
  | _ => none }
def spaceRightsRow : OpenClaim := { program := "ytegjbfcgbfnldaa", sum := "4da716680b2d5e9fccc70d61c47cfe60b4df344238f03cafb0f80b18608f42fa", func := "ringhall/ringkeep2.SpaceRights", spec := "spaceRights", unfollowed := true, recurses := true, apart := false }
def SpaceRightsSaid : Prop := spaceRightsRow.holds Try.pinned (OpenSpec.ofChange spaceRightsSpec)

/-- ITS FALSE NEIGHBOUR: 'it returns false'. Refute it at one input. -/
def spaceRightsWrong : ChangeSpec := { name := "spaceRights", fn := fun _ => fun
  | [d1, d2, d3, d4, d5, d6, d7, d8] => { results := [.lit (.bool false)], args := [d1, d2, d3, d4, d5, d6, d7, d8] }
  | _ => none }
def SpaceRightsWrongFalsely : Prop := spaceRightsRow.holds Try.pinned (OpenSpec.ofChange spaceRightsWrong)

/-- 'ringkeep2.SpaceRoom': WHATEVER THE INPUT: true; the input reads as it did. -/
def spaceRoomSpec : ChangeSpec := { name := "spaceRoom", fn := fun _ => fun
  | [d1, d2, d3, d4] => { results := [.lit (.bool true)], args := [d1, d2, d3, d4] }
  | _ => none }
def spaceRoomRow : OpenClaim := { program := "ytegjbfcgbfnldaa", sum := "4da716680b2d5e9fccc70d61c47cfe60b4df344238f03cafb0f80b18608f42fa", func := "ringhall/ringkeep2.SpaceRoom", spec := "spaceRoom", unfollowed := true, recurses := true, apart := false }
def SpaceRoomSaid : Prop := spaceRoomRow.holds Try.pinned (OpenSpec.ofChange spaceRoomSpec)

/-- ITS FALSE NEIGHBOUR: 'it returns false'. Refute it at one input. -/
def spaceRoomWrong : ChangeSpec := { name := "spaceRoom", fn := fun _ => fun
  | [d1, d2, d3, d4] => { results := [.lit (.bool false)], args := [d1, d2, d3, d4] }
  | _ => none }
def SpaceRoomWrongFalsely : Prop := spaceRoomRow.holds Try.pinned (OpenSpec.ofChange spaceRoomWrong)

/-- 'ringkeep2.SpaceOwn': WHATEVER THE INPUT: true; the input reads as it did. -/
def spaceOwnSpec : ChangeSpec := { name := "spaceOwn", fn := fun _ => fun
  | [d1, d2, d3, d4, d5, d6] => { results := [.lit (.bool true)], args := [d1, d2, d3, d4, d5, d6] }
  | _ => none }
def spaceOwnRow : OpenClaim := { program := "ytegjbfcgbfnldaa", sum := "4da716680b2d5e9fccc70d61c47cfe60b4df344238f03cafb0f80b18608f42fa", func := "ringhall/ringkeep2.SpaceOwn", spec := "spaceOwn", unfollowed := true, recurses := true, apart := false }
def SpaceOwnSaid : Prop := spaceOwnRow.holds Try.pinned (OpenSpec.ofChange spaceOwnSpec)

/-- ITS FALSE NEIGHBOUR: 'it returns false'. Refute it at one input. -/
def spaceOwnWrong : ChangeSpec := { name := "spaceOwn", fn := fun _ => fun
  | [d1, d2, d3, d4, d5, d6] => { results := [.lit (.bool false)], args := [d1, d2, d3, d4, d5, d6] }
  | _ => none }
def SpaceOwnWrongFalsely : Prop := spaceOwnRow.holds Try.pinned (OpenSpec.ofChange spaceOwnWrong)

/-- 'ringkeep2.SpaceParts': WHATEVER THE INPUT: true; the input reads as it did. -/
def spacePartsSpec : ChangeSpec := { name := "spaceParts", fn := fun _ => fun
  | [d1, d2, d3, d4, d5, d6] => { results := [.lit (.bool true)], args := [d1, d2, d3, d4, d5, d6] }
  | _ => none }
def spacePartsRow : OpenClaim := { program := "ytegjbfcgbfnldaa", sum := "4da716680b2d5e9fccc70d61c47cfe60b4df344238f03cafb0f80b18608f42fa", func := "ringhall/ringkeep2.SpaceParts", spec := "spaceParts", unfollowed := true, recurses := true, apart := false }
def SpacePartsSaid : Prop := spacePartsRow.holds Try.pinned (OpenSpec.ofChange spacePartsSpec)

/-- ITS FALSE NEIGHBOUR: 'it returns false'. Refute it at one input. -/
def spacePartsWrong : ChangeSpec := { name := "spaceParts", fn := fun _ => fun
  | [d1, d2, d3, d4, d5, d6] => { results := [.lit (.bool false)], args := [d1, d2, d3, d4, d5, d6] }
  | _ => none }
def SpacePartsWrongFalsely : Prop := spacePartsRow.holds Try.pinned (OpenSpec.ofChange spacePartsWrong)

/-- 'ringkeep2.SpaceWrites': WHATEVER THE INPUT: true; the input reads as it did. -/
def spaceWritesSpec : ChangeSpec := { name := "spaceWrites", fn := fun _ => fun
  | [d1, d2, d3, d4, d5, d6] => { results := [.lit (.bool true)], args := [d1, d2, d3, d4, d5, d6] }
  | _ => none }
def spaceWritesRow : OpenClaim := { program := "ytegjbfcgbfnldaa", sum := "4da716680b2d5e9fccc70d61c47cfe60b4df344238f03cafb0f80b18608f42fa", func := "ringhall/ringkeep2.SpaceWrites", spec := "spaceWrites", unfollowed := true, recurses := true, apart := false }
def SpaceWritesSaid : Prop := spaceWritesRow.holds Try.pinned (OpenSpec.ofChange spaceWritesSpec)

/-- ITS FALSE NEIGHBOUR: 'it returns false'. Refute it at one input. -/
def spaceWritesWrong : ChangeSpec := { name := "spaceWrites", fn := fun _ => fun
  | [d1, d2, d3, d4, d5, d6] => { results := [.lit (.bool false)], args := [d1, d2, d3, d4, d5, d6] }
  | _ => none }
def SpaceWritesWrongFalsely : Prop := spaceWritesRow.holds Try.pinned (OpenSpec.ofChange spaceWritesWrong)

/-- 'ringkeep2.SpaceUnmaps': WHATEVER THE INPUT: true; the input reads as it did. -/
def spaceUnmapsSpec : ChangeSpec := { name := "spaceUnmaps", fn := fun _ => fun
  | [d1, d2, d3, d4, d5, d6] => { results := [.lit (.bool true)], args := [d1, d2, d3, d4, d5, d6] }
  | _ => none }
def spaceUnmapsRow : OpenClaim := { program := "ytegjbfcgbfnldaa", sum := "4da716680b2d5e9fccc70d61c47cfe60b4df344238f03cafb0f80b18608f42fa", func := "ringhall/ringkeep2.SpaceUnmaps", spec := "spaceUnmaps", unfollowed := true, recurses := true, apart := false }
def SpaceUnmapsSaid : Prop := spaceUnmapsRow.holds Try.pinned (OpenSpec.ofChange spaceUnmapsSpec)

/-- ITS FALSE NEIGHBOUR: 'it returns false'. Refute it at one input. -/
def spaceUnmapsWrong : ChangeSpec := { name := "spaceUnmaps", fn := fun _ => fun
  | [d1, d2, d3, d4, d5, d6] => { results := [.lit (.bool false)], args := [d1, d2, d3, d4, d5, d6] }
  | _ => none }
def SpaceUnmapsWrongFalsely : Prop := spaceUnmapsRow.holds Try.pinned (OpenSpec.ofChange spaceUnmapsWrong)

/-- 'ringkeep2.SpaceFork': WHATEVER THE INPUT: true; the input reads as it did. -/
def spaceForkSpec : ChangeSpec := { name := "spaceFork", fn := fun _ => fun
  | [d1, d2, d3, d4] => { results := [.lit (.bool true)], args := [d1, d2, d3, d4] }
  | _ => none }
def spaceForkRow : OpenClaim := { program := "ytegjbfcgbfnldaa", sum := "4da716680b2d5e9fccc70d61c47cfe60b4df344238f03cafb0f80b18608f42fa", func := "ringhall/ringkeep2.SpaceFork", spec := "spaceFork", unfollowed := true, recurses := true, apart := false }
def SpaceForkSaid : Prop := spaceForkRow.holds Try.pinned (OpenSpec.ofChange spaceForkSpec)

/-- ITS FALSE NEIGHBOUR: 'it returns false'. Refute it at one input. -/
def spaceForkWrong : ChangeSpec := { name := "spaceFork", fn := fun _ => fun
  | [d1, d2, d3, d4] => { results := [.lit (.bool false)], args := [d1, d2, d3, d4] }
  | _ => none }
def SpaceForkWrongFalsely : Prop := spaceForkRow.holds Try.pinned (OpenSpec.ofChange spaceForkWrong)

/-- 'ringkeep2.SpaceReclaim': WHATEVER THE INPUT: true; the input reads as it did. -/
def spaceReclaimSpec : ChangeSpec := { name := "spaceReclaim", fn := fun _ => fun
  | [d1, d2, d3, d4, d5] => { results := [.lit (.bool true)], args := [d1, d2, d3, d4, d5] }
  | _ => none }
def spaceReclaimRow : OpenClaim := { program := "ytegjbfcgbfnldaa", sum := "4da716680b2d5e9fccc70d61c47cfe60b4df344238f03cafb0f80b18608f42fa", func := "ringhall/ringkeep2.SpaceReclaim", spec := "spaceReclaim", unfollowed := true, recurses := true, apart := false }
def SpaceReclaimSaid : Prop := spaceReclaimRow.holds Try.pinned (OpenSpec.ofChange spaceReclaimSpec)

/-- ITS FALSE NEIGHBOUR: 'it returns false'. Refute it at one input. -/
def spaceReclaimWrong : ChangeSpec := { name := "spaceReclaim", fn := fun _ => fun
  | [d1, d2, d3, d4, d5] => { results := [.lit (.bool false)], args := [d1, d2, d3, d4, d5] }
  | _ => none }
def SpaceReclaimWrongFalsely : Prop := spaceReclaimRow.holds Try.pinned (OpenSpec.ofChange spaceReclaimWrong)

/-- 'ringkeep2.SpaceAll': WHATEVER THE INPUT: true; the input reads as it did. -/
def spaceAllSpec : ChangeSpec := { name := "spaceAll", fn := fun _ => fun
  | [d1, d2, d3] => { results := [.lit (.bool true)], args := [d1, d2, d3] }
  | _ => none }
def spaceAllRow : OpenClaim := { program := "ytegjbfcgbfnldaa", sum := "4da716680b2d5e9fccc70d61c47cfe60b4df344238f03cafb0f80b18608f42fa", func := "ringhall/ringkeep2.SpaceAll", spec := "spaceAll", unfollowed := true, recurses := true, apart := false }
def SpaceAllSaid : Prop := spaceAllRow.holds Try.pinned (OpenSpec.ofChange spaceAllSpec)

/-- ITS FALSE NEIGHBOUR: 'it returns false'. Refute it at one input. -/
def spaceAllWrong : ChangeSpec := { name := "spaceAll", fn := fun _ => fun
  | [d1, d2, d3] => { results := [.lit (.bool false)], args := [d1, d2, d3] }
  | _ => none }
def SpaceAllWrongFalsely : Prop := spaceAllRow.holds Try.pinned (OpenSpec.ofChange spaceAllWrong)

/-- 'ringkeep2.SpaceNumbers': WHATEVER THE INPUT: true; the input reads as it did. -/
def spaceNumbersSpec : ChangeSpec := { name := "spaceNumbers", fn := fun _ => fun
  | [d1, d2, d3] => { results := [.lit (.bool true)], args := [d1, d2, d3] }
  | _ => none }
def spaceNumbersRow : OpenClaim := { program := "ytegjbfcgbfnldaa", sum := "4da716680b2d5e9fccc70d61c47cfe60b4df344238f03cafb0f80b18608f42fa", func := "ringhall/ringkeep2.SpaceNumbers", spec := "spaceNumbers", unfollowed := true, recurses := true, apart := false }
def SpaceNumbersSaid : Prop := spaceNumbersRow.holds Try.pinned (OpenSpec.ofChange spaceNumbersSpec)

/-- ITS FALSE NEIGHBOUR: 'it returns false'. Refute it at one input. -/
def spaceNumbersWrong : ChangeSpec := { name := "spaceNumbers", fn := fun _ => fun
  | [d1, d2, d3] => { results := [.lit (.bool false)], args := [d1, d2, d3] }
  | _ => none }
def SpaceNumbersWrongFalsely : Prop := spaceNumbersRow.holds Try.pinned (OpenSpec.ofChange spaceNumbersWrong)

/- THE SECOND FORM. 'bulk': how many values and letters a reading holds, each counted each time it is reached (what is shared counts as often as it is met; a slice's spare places count too). A statement '..UptoSaid' is the law's where the arguments, and the package variables that the reading takes, are together of bulk at most 1048576: NARROWER than '..Said'. Prove '..Said' where nothing that the law and all that it calls make is longer than what came in: it says more and counts as full. Else prove '..UptoSaid'. A law counts once. -/
mutual
def uptoBulk {H : Type} : DataW H → Nat
  | .lit (.string bytes) => bytes.length + 1
  | .lit _ => 1
  | .nil => 1
  | .ptr d => uptoBulk d + 1
  | .slice elems spare => uptoBulkAll elems + uptoBulkAll spare + 1
  | .agg parts => uptoBulkAll parts + 1
  | .iface _ d => uptoBulk d + 1
  | .map entries => uptoBulkEntries entries + 1
  | .held _ => 1
def uptoBulkAll {H : Type} : List (DataW H) → Nat
  | [] => 0
  | d :: r => uptoBulk d + uptoBulkAll r
def uptoBulkEntries {H : Type} : List (Lit × DataW H) → Nat
  | [] => 0
  | x :: r => uptoBulkEntry x + uptoBulkEntries r
def uptoBulkEntry {H : Type} : Lit × DataW H → Nat
  | (.string bytes, d) => bytes.length + uptoBulk d + 1
  | (_, d) => uptoBulk d + 1
 end
def uptoSmall : (H : Type) → List (DataW H) → Bool := fun _ ds => decide (uptoBulkAll ds ≤ 1048576)
def OpenSpec.upto (s : _root_.Go.ChangeSpec) : _root_.Go.OpenSpec := { _root_.Go.OpenSpec.ofChange s with cond := some uptoSmall }

/-- 'ringkeep2.SpaceZero', WHERE WHAT IT READS IS OF BULK AT MOST 1048576: true; the input reads as it did. -/
def spaceZeroUptoRow : OpenClaim := { program := "ytegjbfcgbfnldaa", sum := "4da716680b2d5e9fccc70d61c47cfe60b4df344238f03cafb0f80b18608f42fa", func := "ringhall/ringkeep2.SpaceZero", spec := "spaceZero", unfollowed := true, recurses := true, apart := false, narrowed := true }
def SpaceZeroUptoSaid : Prop := spaceZeroUptoRow.holds Try.pinned (OpenSpec.upto spaceZeroSpec)

/-- 'ringkeep2.SpaceBytes', WHERE WHAT IT READS IS OF BULK AT MOST 1048576: true; the input reads as it did. -/
def spaceBytesUptoRow : OpenClaim := { program := "ytegjbfcgbfnldaa", sum := "4da716680b2d5e9fccc70d61c47cfe60b4df344238f03cafb0f80b18608f42fa", func := "ringhall/ringkeep2.SpaceBytes", spec := "spaceBytes", unfollowed := true, recurses := true, apart := false, narrowed := true }
def SpaceBytesUptoSaid : Prop := spaceBytesUptoRow.holds Try.pinned (OpenSpec.upto spaceBytesSpec)

/-- 'ringkeep2.SpaceRights', WHERE WHAT IT READS IS OF BULK AT MOST 1048576: true; the input reads as it did. -/
def spaceRightsUptoRow : OpenClaim := { program := "ytegjbfcgbfnldaa", sum := "4da716680b2d5e9fccc70d61c47cfe60b4df344238f03cafb0f80b18608f42fa", func := "ringhall/ringkeep2.SpaceRights", spec := "spaceRights", unfollowed := true, recurses := true, apart := false, narrowed := true }
def SpaceRightsUptoSaid : Prop := spaceRightsUptoRow.holds Try.pinned (OpenSpec.upto spaceRightsSpec)

/-- 'ringkeep2.SpaceRoom', WHERE WHAT IT READS IS OF BULK AT MOST 1048576: true; the input reads as it did. -/
def spaceRoomUptoRow : OpenClaim := { program := "ytegjbfcgbfnldaa", sum := "4da716680b2d5e9fccc70d61c47cfe60b4df344238f03cafb0f80b18608f42fa", func := "ringhall/ringkeep2.SpaceRoom", spec := "spaceRoom", unfollowed := true, recurses := true, apart := false, narrowed := true }
def SpaceRoomUptoSaid : Prop := spaceRoomUptoRow.holds Try.pinned (OpenSpec.upto spaceRoomSpec)

/-- 'ringkeep2.SpaceOwn', WHERE WHAT IT READS IS OF BULK AT MOST 1048576: true; the input reads as it did. -/
def spaceOwnUptoRow : OpenClaim := { program := "ytegjbfcgbfnldaa", sum := "4da716680b2d5e9fccc70d61c47cfe60b4df344238f03cafb0f80b18608f42fa", func := "ringhall/ringkeep2.SpaceOwn", spec := "spaceOwn", unfollowed := true, recurses := true, apart := false, narrowed := true }
def SpaceOwnUptoSaid : Prop := spaceOwnUptoRow.holds Try.pinned (OpenSpec.upto spaceOwnSpec)

/-- 'ringkeep2.SpaceParts', WHERE WHAT IT READS IS OF BULK AT MOST 1048576: true; the input reads as it did. -/
def spacePartsUptoRow : OpenClaim := { program := "ytegjbfcgbfnldaa", sum := "4da716680b2d5e9fccc70d61c47cfe60b4df344238f03cafb0f80b18608f42fa", func := "ringhall/ringkeep2.SpaceParts", spec := "spaceParts", unfollowed := true, recurses := true, apart := false, narrowed := true }
def SpacePartsUptoSaid : Prop := spacePartsUptoRow.holds Try.pinned (OpenSpec.upto spacePartsSpec)

/-- 'ringkeep2.SpaceWrites', WHERE WHAT IT READS IS OF BULK AT MOST 1048576: true; the input reads as it did. -/
def spaceWritesUptoRow : OpenClaim := { program := "ytegjbfcgbfnldaa", sum := "4da716680b2d5e9fccc70d61c47cfe60b4df344238f03cafb0f80b18608f42fa", func := "ringhall/ringkeep2.SpaceWrites", spec := "spaceWrites", unfollowed := true, recurses := true, apart := false, narrowed := true }
def SpaceWritesUptoSaid : Prop := spaceWritesUptoRow.holds Try.pinned (OpenSpec.upto spaceWritesSpec)

/-- 'ringkeep2.SpaceUnmaps', WHERE WHAT IT READS IS OF BULK AT MOST 1048576: true; the input reads as it did. -/
def spaceUnmapsUptoRow : OpenClaim := { program := "ytegjbfcgbfnldaa", sum := "4da716680b2d5e9fccc70d61c47cfe60b4df344238f03cafb0f80b18608f42fa", func := "ringhall/ringkeep2.SpaceUnmaps", spec := "spaceUnmaps", unfollowed := true, recurses := true, apart := false, narrowed := true }
def SpaceUnmapsUptoSaid : Prop := spaceUnmapsUptoRow.holds Try.pinned (OpenSpec.upto spaceUnmapsSpec)

/-- 'ringkeep2.SpaceFork', WHERE WHAT IT READS IS OF BULK AT MOST 1048576: true; the input reads as it did. -/
def spaceForkUptoRow : OpenClaim := { program := "ytegjbfcgbfnldaa", sum := "4da716680b2d5e9fccc70d61c47cfe60b4df344238f03cafb0f80b18608f42fa", func := "ringhall/ringkeep2.SpaceFork", spec := "spaceFork", unfollowed := true, recurses := true, apart := false, narrowed := true }
def SpaceForkUptoSaid : Prop := spaceForkUptoRow.holds Try.pinned (OpenSpec.upto spaceForkSpec)

/-- 'ringkeep2.SpaceReclaim', WHERE WHAT IT READS IS OF BULK AT MOST 1048576: true; the input reads as it did. -/
def spaceReclaimUptoRow : OpenClaim := { program := "ytegjbfcgbfnldaa", sum := "4da716680b2d5e9fccc70d61c47cfe60b4df344238f03cafb0f80b18608f42fa", func := "ringhall/ringkeep2.SpaceReclaim", spec := "spaceReclaim", unfollowed := true, recurses := true, apart := false, narrowed := true }
def SpaceReclaimUptoSaid : Prop := spaceReclaimUptoRow.holds Try.pinned (OpenSpec.upto spaceReclaimSpec)

/-- 'ringkeep2.SpaceAll', WHERE WHAT IT READS IS OF BULK AT MOST 1048576: true; the input reads as it did. -/
def spaceAllUptoRow : OpenClaim := { program := "ytegjbfcgbfnldaa", sum := "4da716680b2d5e9fccc70d61c47cfe60b4df344238f03cafb0f80b18608f42fa", func := "ringhall/ringkeep2.SpaceAll", spec := "spaceAll", unfollowed := true, recurses := true, apart := false, narrowed := true }
def SpaceAllUptoSaid : Prop := spaceAllUptoRow.holds Try.pinned (OpenSpec.upto spaceAllSpec)

/-- 'ringkeep2.SpaceNumbers', WHERE WHAT IT READS IS OF BULK AT MOST 1048576: true; the input reads as it did. -/
def spaceNumbersUptoRow : OpenClaim := { program := "ytegjbfcgbfnldaa", sum := "4da716680b2d5e9fccc70d61c47cfe60b4df344238f03cafb0f80b18608f42fa", func := "ringhall/ringkeep2.SpaceNumbers", spec := "spaceNumbers", unfollowed := true, recurses := true, apart := false, narrowed := true }
def SpaceNumbersUptoSaid : Prop := spaceNumbersUptoRow.holds Try.pinned (OpenSpec.upto spaceNumbersSpec)

end Rows
end Go.Proofs.Ytegjbfcgbfnldaa
