/-
  No cell of these rows narrows 'for every input' (looked for: loops, veiled, ifaces, maps, wideKeys, modest, calm, conditions, laid).
  DERIVED. THE GIVEN ROWS OF THIS SEAT. 9 by the template 'for every input the law returns true; each argument reads behind the call as it read before'; 0 by the template 'total and deterministic' (their statements: YtdhkhnegnlmgiaaTotals.lean).
  GIVEN WITH THE SEED: the statements are not yours to turn. If you find one false, say at which input.
  Laid BY PROGRAM, IN A SANDBOX (cutbox-rows.mjs): the forced cells as the released guide's own fill.sh prints them over the translation 443b07c9be2165e5… (all of the seat's roots in one cut). By AI agents, Wed Nov 11 2026. No macro, syntax, notation, axiom, sorry.
-/
import Derived.Test.YtdhkhnegnlmgiaaChecked
import GoSem.Claim
import GoSem.ClaimJoined
import GoSem.ClaimMapViews
import Derived.JoinedTies
import Derived.KernelRfl
namespace Go.Proofs.Ytdhkhnegnlmgiaa
/- THE CELL 'sum', in the pinned program and in every row, IS THE sha256 OF THE DUMP (.gsa) THAT YtdhkhnegnlmgiaaProg.lean LOADS. Nothing in Lean hashes anything: it is a label: what it is worth is what the hold of that sum in a sandbox is worth. -/
noncomputable def Try.pinned : Pinned := { name := "ytdhkhnegnlmgiaa", sum := "443b07c9be2165e580209268b64ea98aea18aecceefde9317e25be83ebb40b2d", checked := Try.checked }
namespace Rows
def none {H : Type} : Left H := { results := [], args := [] }

/-- 'ringkeep2.PagesBack': WHATEVER THE INPUT: true; the input reads as it did. -/
def pagesBackSpec : ChangeSpec := { name := "pagesBack", fn := fun _ => fun
  | [d] => { results := [.lit (.bool true)], args := [d] }
  | _ => none }
def pagesBackRow : OpenClaim := { program := "ytdhkhnegnlmgiaa", sum := "443b07c9be2165e580209268b64ea98aea18aecceefde9317e25be83ebb40b2d", func := "ringhall/ringkeep2.PagesBack", spec := "pagesBack", inPlace := ["slices.overlaps[ringhall/pages.Page]"], unfollowed := true, recurses := true, apart := false }
def PagesBackSaid : Prop := pagesBackRow.holds Try.pinned (OpenSpec.ofChange pagesBackSpec)

/-- ITS FALSE NEIGHBOUR: 'it returns false'. Refute it at one input. -/
def pagesBackWrong : ChangeSpec := { name := "pagesBack", fn := fun _ => fun
  | [d] => { results := [.lit (.bool false)], args := [d] }
  | _ => none }
def PagesBackWrongFalsely : Prop := pagesBackRow.holds Try.pinned (OpenSpec.ofChange pagesBackWrong)

/-- 'ringkeep2.PagesHeld': WHATEVER THE INPUT: true; the input reads as it did. -/
def pagesHeldSpec : ChangeSpec := { name := "pagesHeld", fn := fun _ => fun
  | [d1, d2, d3] => { results := [.lit (.bool true)], args := [d1, d2, d3] }
  | _ => none }
def pagesHeldRow : OpenClaim := { program := "ytdhkhnegnlmgiaa", sum := "443b07c9be2165e580209268b64ea98aea18aecceefde9317e25be83ebb40b2d", func := "ringhall/ringkeep2.PagesHeld", spec := "pagesHeld", inPlace := ["slices.overlaps[ringhall/pages.Page]"], unfollowed := true, recurses := true, apart := false }
def PagesHeldSaid : Prop := pagesHeldRow.holds Try.pinned (OpenSpec.ofChange pagesHeldSpec)

/-- ITS FALSE NEIGHBOUR: 'it returns false'. Refute it at one input. -/
def pagesHeldWrong : ChangeSpec := { name := "pagesHeld", fn := fun _ => fun
  | [d1, d2, d3] => { results := [.lit (.bool false)], args := [d1, d2, d3] }
  | _ => none }
def PagesHeldWrongFalsely : Prop := pagesHeldRow.holds Try.pinned (OpenSpec.ofChange pagesHeldWrong)

/-- 'ringkeep2.PagesSets': WHATEVER THE INPUT: true; the input reads as it did. -/
def pagesSetsSpec : ChangeSpec := { name := "pagesSets", fn := fun _ => fun
  | [d1, d2, d3, d4, d5, d6] => { results := [.lit (.bool true)], args := [d1, d2, d3, d4, d5, d6] }
  | _ => none }
def pagesSetsRow : OpenClaim := { program := "ytdhkhnegnlmgiaa", sum := "443b07c9be2165e580209268b64ea98aea18aecceefde9317e25be83ebb40b2d", func := "ringhall/ringkeep2.PagesSets", spec := "pagesSets", inPlace := ["slices.overlaps[ringhall/pages.Page]"], unfollowed := true, recurses := true, apart := false }
def PagesSetsSaid : Prop := pagesSetsRow.holds Try.pinned (OpenSpec.ofChange pagesSetsSpec)

/-- ITS FALSE NEIGHBOUR: 'it returns false'. Refute it at one input. -/
def pagesSetsWrong : ChangeSpec := { name := "pagesSets", fn := fun _ => fun
  | [d1, d2, d3, d4, d5, d6] => { results := [.lit (.bool false)], args := [d1, d2, d3, d4, d5, d6] }
  | _ => none }
def PagesSetsWrongFalsely : Prop := pagesSetsRow.holds Try.pinned (OpenSpec.ofChange pagesSetsWrong)

/-- 'ringkeep2.PagesTurns': WHATEVER THE INPUT: true; the input reads as it did. -/
def pagesTurnsSpec : ChangeSpec := { name := "pagesTurns", fn := fun _ => fun
  | [d1, d2, d3, d4] => { results := [.lit (.bool true)], args := [d1, d2, d3, d4] }
  | _ => none }
def pagesTurnsRow : OpenClaim := { program := "ytdhkhnegnlmgiaa", sum := "443b07c9be2165e580209268b64ea98aea18aecceefde9317e25be83ebb40b2d", func := "ringhall/ringkeep2.PagesTurns", spec := "pagesTurns", inPlace := ["slices.overlaps[ringhall/pages.Page]"], unfollowed := true, recurses := true, apart := false }
def PagesTurnsSaid : Prop := pagesTurnsRow.holds Try.pinned (OpenSpec.ofChange pagesTurnsSpec)

/-- ITS FALSE NEIGHBOUR: 'it returns false'. Refute it at one input. -/
def pagesTurnsWrong : ChangeSpec := { name := "pagesTurns", fn := fun _ => fun
  | [d1, d2, d3, d4] => { results := [.lit (.bool false)], args := [d1, d2, d3, d4] }
  | _ => none }
def PagesTurnsWrongFalsely : Prop := pagesTurnsRow.holds Try.pinned (OpenSpec.ofChange pagesTurnsWrong)

/-- 'ringkeep2.OomFull': WHATEVER THE INPUT: true; the input reads as it did. -/
def oomFullSpec : ChangeSpec := { name := "oomFull", fn := fun _ => fun
  | [d1, d2] => { results := [.lit (.bool true)], args := [d1, d2] }
  | _ => none }
def oomFullRow : OpenClaim := { program := "ytdhkhnegnlmgiaa", sum := "443b07c9be2165e580209268b64ea98aea18aecceefde9317e25be83ebb40b2d", func := "ringhall/ringkeep2.OomFull", spec := "oomFull", unfollowed := true, recurses := true, apart := false }
def OomFullSaid : Prop := oomFullRow.holds Try.pinned (OpenSpec.ofChange oomFullSpec)

/-- ITS FALSE NEIGHBOUR: 'it returns false'. Refute it at one input. -/
def oomFullWrong : ChangeSpec := { name := "oomFull", fn := fun _ => fun
  | [d1, d2] => { results := [.lit (.bool false)], args := [d1, d2] }
  | _ => none }
def OomFullWrongFalsely : Prop := oomFullRow.holds Try.pinned (OpenSpec.ofChange oomFullWrong)

/-- 'ringkeep2.OomFrees': WHATEVER THE INPUT: true; the input reads as it did. -/
def oomFreesSpec : ChangeSpec := { name := "oomFrees", fn := fun _ => fun
  | [d1, d2] => { results := [.lit (.bool true)], args := [d1, d2] }
  | _ => none }
def oomFreesRow : OpenClaim := { program := "ytdhkhnegnlmgiaa", sum := "443b07c9be2165e580209268b64ea98aea18aecceefde9317e25be83ebb40b2d", func := "ringhall/ringkeep2.OomFrees", spec := "oomFrees", unfollowed := true, recurses := true, apart := false }
def OomFreesSaid : Prop := oomFreesRow.holds Try.pinned (OpenSpec.ofChange oomFreesSpec)

/-- ITS FALSE NEIGHBOUR: 'it returns false'. Refute it at one input. -/
def oomFreesWrong : ChangeSpec := { name := "oomFrees", fn := fun _ => fun
  | [d1, d2] => { results := [.lit (.bool false)], args := [d1, d2] }
  | _ => none }
def OomFreesWrongFalsely : Prop := oomFreesRow.holds Try.pinned (OpenSpec.ofChange oomFreesWrong)

/-- 'ringkeep2.OomSpares': WHATEVER THE INPUT: true; the input reads as it did. -/
def oomSparesSpec : ChangeSpec := { name := "oomSpares", fn := fun _ => fun
  | [d1, d2] => { results := [.lit (.bool true)], args := [d1, d2] }
  | _ => none }
def oomSparesRow : OpenClaim := { program := "ytdhkhnegnlmgiaa", sum := "443b07c9be2165e580209268b64ea98aea18aecceefde9317e25be83ebb40b2d", func := "ringhall/ringkeep2.OomSpares", spec := "oomSpares", unfollowed := true, recurses := true, apart := false }
def OomSparesSaid : Prop := oomSparesRow.holds Try.pinned (OpenSpec.ofChange oomSparesSpec)

/-- ITS FALSE NEIGHBOUR: 'it returns false'. Refute it at one input. -/
def oomSparesWrong : ChangeSpec := { name := "oomSpares", fn := fun _ => fun
  | [d1, d2] => { results := [.lit (.bool false)], args := [d1, d2] }
  | _ => none }
def OomSparesWrongFalsely : Prop := oomSparesRow.holds Try.pinned (OpenSpec.ofChange oomSparesWrong)

/-- 'ringkeep2.OomFewest': WHATEVER THE INPUT: true; the input reads as it did. -/
def oomFewestSpec : ChangeSpec := { name := "oomFewest", fn := fun _ => fun
  | [d1, d2, d3] => { results := [.lit (.bool true)], args := [d1, d2, d3] }
  | _ => none }
def oomFewestRow : OpenClaim := { program := "ytdhkhnegnlmgiaa", sum := "443b07c9be2165e580209268b64ea98aea18aecceefde9317e25be83ebb40b2d", func := "ringhall/ringkeep2.OomFewest", spec := "oomFewest", unfollowed := true, recurses := true, apart := false }
def OomFewestSaid : Prop := oomFewestRow.holds Try.pinned (OpenSpec.ofChange oomFewestSpec)

/-- ITS FALSE NEIGHBOUR: 'it returns false'. Refute it at one input. -/
def oomFewestWrong : ChangeSpec := { name := "oomFewest", fn := fun _ => fun
  | [d1, d2, d3] => { results := [.lit (.bool false)], args := [d1, d2, d3] }
  | _ => none }
def OomFewestWrongFalsely : Prop := oomFewestRow.holds Try.pinned (OpenSpec.ofChange oomFewestWrong)

/-- 'ringkeep2.FrameParts': WHATEVER THE INPUT: true; the input reads as it did. -/
def framePartsSpec : ChangeSpec := { name := "frameParts", fn := fun _ => fun
  | [d] => { results := [.lit (.bool true)], args := [d] }
  | _ => none }
def framePartsRow : OpenClaim := { program := "ytdhkhnegnlmgiaa", sum := "443b07c9be2165e580209268b64ea98aea18aecceefde9317e25be83ebb40b2d", func := "ringhall/ringkeep2.FrameParts", spec := "frameParts", recurses := true, apart := false }
def FramePartsSaid : Prop := framePartsRow.holds Try.pinned (OpenSpec.ofChange framePartsSpec)

/-- ITS FALSE NEIGHBOUR: 'it returns false'. Refute it at one input. -/
def framePartsWrong : ChangeSpec := { name := "frameParts", fn := fun _ => fun
  | [d] => { results := [.lit (.bool false)], args := [d] }
  | _ => none }
def FramePartsWrongFalsely : Prop := framePartsRow.holds Try.pinned (OpenSpec.ofChange framePartsWrong)

/- THE SECOND FORM. 'bulk': how many values and letters a reading holds, each counted each time it is reached (what is shared counts as often as it is met; a slice's spare places count too). A statement '..UptoSaid' is the law's where the arguments, and the package variables that the reading takes, are together of bulk at most 1048576: NARROWER than '..Said'. Prove '..Said' where nothing that the law and all that it calls make is longer than what came in: it says more and counts as full. Else prove '..UptoSaid'. A law counts once. -/
mutual
def uptoBulk {H : Type} : DataW H → Nat
  | .lit (.string bytes) => bytes.length + 1
  | .lit _ => 1
  | .nil => 1
  | .ptr d => uptoBulk d + 1
  | .slice elems spare => uptoBulkAll elems + uptoBulkAll spare + 1
  | .agg parts => uptoBulkAll parts + 1
  | .iface _ d => uptoBulk d + 1
  | .map entries => uptoBulkEntries entries + 1
  | .held _ => 1
def uptoBulkAll {H : Type} : List (DataW H) → Nat
  | [] => 0
  | d :: r => uptoBulk d + uptoBulkAll r
def uptoBulkEntries {H : Type} : List (Lit × DataW H) → Nat
  | [] => 0
  | x :: r => uptoBulkEntry x + uptoBulkEntries r
def uptoBulkEntry {H : Type} : Lit × DataW H → Nat
  | (.string bytes, d) => bytes.length + uptoBulk d + 1
  | (_, d) => uptoBulk d + 1
 end
def uptoSmall : (H : Type) → List (DataW H) → Bool := fun _ ds => decide (uptoBulkAll ds ≤ 1048576)
def OpenSpec.upto (s : _root_.Go.ChangeSpec) : _root_.Go.OpenSpec := { _root_.Go.OpenSpec.ofChange s with cond := some uptoSmall }

/-- 'ringkeep2.PagesBack', WHERE WHAT IT READS IS OF BULK AT MOST 1048576: true; the input reads as it did. -/
def pagesBackUptoRow : OpenClaim := { program := "ytdhkhnegnlmgiaa", sum := "443b07c9be2165e580209268b64ea98aea18aecceefde9317e25be83ebb40b2d", func := "ringhall/ringkeep2.PagesBack", spec := "pagesBack", inPlace := ["slices.overlaps[ringhall/pages.Page]"], unfollowed := true, recurses := true, apart := false, narrowed := true }
def PagesBackUptoSaid : Prop := pagesBackUptoRow.holds Try.pinned (OpenSpec.upto pagesBackSpec)

/-- 'ringkeep2.PagesHeld', WHERE WHAT IT READS IS OF BULK AT MOST 1048576: true; the input reads as it did. -/
def pagesHeldUptoRow : OpenClaim := { program := "ytdhkhnegnlmgiaa", sum := "443b07c9be2165e580209268b64ea98aea18aecceefde9317e25be83ebb40b2d", func := "ringhall/ringkeep2.PagesHeld", spec := "pagesHeld", inPlace := ["slices.overlaps[ringhall/pages.Page]"], unfollowed := true, recurses := true, apart := false, narrowed := true }
def PagesHeldUptoSaid : Prop := pagesHeldUptoRow.holds Try.pinned (OpenSpec.upto pagesHeldSpec)

/-- 'ringkeep2.PagesSets', WHERE WHAT IT READS IS OF BULK AT MOST 1048576: true; the input reads as it did. -/
def pagesSetsUptoRow : OpenClaim := { program := "ytdhkhnegnlmgiaa", sum := "443b07c9be2165e580209268b64ea98aea18aecceefde9317e25be83ebb40b2d", func := "ringhall/ringkeep2.PagesSets", spec := "pagesSets", inPlace := ["slices.overlaps[ringhall/pages.Page]"], unfollowed := true, recurses := true, apart := false, narrowed := true }
def PagesSetsUptoSaid : Prop := pagesSetsUptoRow.holds Try.pinned (OpenSpec.upto pagesSetsSpec)

/-- 'ringkeep2.PagesTurns', WHERE WHAT IT READS IS OF BULK AT MOST 1048576: true; the input reads as it did. -/
def pagesTurnsUptoRow : OpenClaim := { program := "ytdhkhnegnlmgiaa", sum := "443b07c9be2165e580209268b64ea98aea18aecceefde9317e25be83ebb40b2d", func := "ringhall/ringkeep2.PagesTurns", spec := "pagesTurns", inPlace := ["slices.overlaps[ringhall/pages.Page]"], unfollowed := true, recurses := true, apart := false, narrowed := true }
def PagesTurnsUptoSaid : Prop := pagesTurnsUptoRow.holds Try.pinned (OpenSpec.upto pagesTurnsSpec)

/-- 'ringkeep2.OomFull', WHERE WHAT IT READS IS OF BULK AT MOST 1048576: true; the input reads as it did. -/
def oomFullUptoRow : OpenClaim := { program := "ytdhkhnegnlmgiaa", sum := "443b07c9be2165e580209268b64ea98aea18aecceefde9317e25be83ebb40b2d", func := "ringhall/ringkeep2.OomFull", spec := "oomFull", unfollowed := true, recurses := true, apart := false, narrowed := true }
def OomFullUptoSaid : Prop := oomFullUptoRow.holds Try.pinned (OpenSpec.upto oomFullSpec)

/-- 'ringkeep2.OomFrees', WHERE WHAT IT READS IS OF BULK AT MOST 1048576: true; the input reads as it did. -/
def oomFreesUptoRow : OpenClaim := { program := "ytdhkhnegnlmgiaa", sum := "443b07c9be2165e580209268b64ea98aea18aecceefde9317e25be83ebb40b2d", func := "ringhall/ringkeep2.OomFrees", spec := "oomFrees", unfollowed := true, recurses := true, apart := false, narrowed := true }
def OomFreesUptoSaid : Prop := oomFreesUptoRow.holds Try.pinned (OpenSpec.upto oomFreesSpec)

/-- 'ringkeep2.OomSpares', WHERE WHAT IT READS IS OF BULK AT MOST 1048576: true; the input reads as it did. -/
def oomSparesUptoRow : OpenClaim := { program := "ytdhkhnegnlmgiaa", sum := "443b07c9be2165e580209268b64ea98aea18aecceefde9317e25be83ebb40b2d", func := "ringhall/ringkeep2.OomSpares", spec := "oomSpares", unfollowed := true, recurses := true, apart := false, narrowed := true }
def OomSparesUptoSaid : Prop := oomSparesUptoRow.holds Try.pinned (OpenSpec.upto oomSparesSpec)

/-- 'ringkeep2.OomFewest', WHERE WHAT IT READS IS OF BULK AT MOST 1048576: true; the input reads as it did. -/
def oomFewestUptoRow : OpenClaim := { program := "ytdhkhnegnlmgiaa", sum := "443b07c9be2165e580209268b64ea98aea18aecceefde9317e25be83ebb40b2d", func := "ringhall/ringkeep2.OomFewest", spec := "oomFewest", unfollowed := true, recurses := true, apart := false, narrowed := true }
def OomFewestUptoSaid : Prop := oomFewestUptoRow.holds Try.pinned (OpenSpec.upto oomFewestSpec)

/-- 'ringkeep2.FrameParts', WHERE WHAT IT READS IS OF BULK AT MOST 1048576: true; the input reads as it did. -/
def framePartsUptoRow : OpenClaim := { program := "ytdhkhnegnlmgiaa", sum := "443b07c9be2165e580209268b64ea98aea18aecceefde9317e25be83ebb40b2d", func := "ringhall/ringkeep2.FrameParts", spec := "frameParts", recurses := true, apart := false, narrowed := true }
def FramePartsUptoSaid : Prop := framePartsUptoRow.holds Try.pinned (OpenSpec.upto framePartsSpec)

end Rows
end Go.Proofs.Ytdhkhnegnlmgiaa
