/-
  No cell of these rows narrows 'for every input' (looked for: loops, veiled, ifaces, maps, wideKeys, modest, calm, conditions, laid).
  DERIVED. THE GIVEN ROWS OF THIS SEAT. 5 by the template 'for every input the law returns true; each argument reads behind the call as it read before'; 0 by the template 'total and deterministic' (their statements: YtebpjfdbjhodiaaTotals.lean).
  GIVEN WITH THE SEED: the statements are not yours to turn. If you find one false, say at which input.
  Laid BY PROGRAM, IN A SANDBOX (cutbox-rows.mjs): the forced cells as the released guide's own fill.sh prints them over the translation 269743a684854d12… (all of the seat's roots in one cut). By AI agents, Wed Nov 11 2026. No macro, syntax, notation, axiom, sorry.
-/
import Derived.Test.YtebpjfdbjhodiaaChecked
import GoSem.Claim
import GoSem.ClaimJoined
import GoSem.ClaimMapViews
import Derived.JoinedTies
import Derived.KernelRfl
namespace Go.Proofs.Ytebpjfdbjhodiaa
/- THE CELL 'sum', in the pinned program and in every row, IS THE sha256 OF THE DUMP (.gsa) THAT YtebpjfdbjhodiaaProg.lean LOADS. Nothing in Lean hashes anything: it is a label: what it is worth is what the hold of that sum in a sandbox is worth. -/
noncomputable def Try.pinned : Pinned := { name := "ytebpjfdbjhodiaa", sum := "269743a684854d12e2d7b78e13296d04c8126d71680f5d80235799818efacf12", checked := Try.checked }
namespace Rows
def none {H : Type} : Left H := { results := [], args := [] }

/-- 'ringkeep2.PagesOwn': WHATEVER THE INPUT: true; the input reads as it did. -/
def pagesOwnSpec : ChangeSpec := { name := "pagesOwn", fn := fun _ => fun
  | [d1, d2, d3, d4, d5] => { results := [.lit (.bool true)], args := [d1, d2, d3, d4, d5] }
  | _ => none }
def pagesOwnRow : OpenClaim := { program := "ytebpjfdbjhodiaa", sum := "269743a684854d12e2d7b78e13296d04c8126d71680f5d80235799818efacf12", func := "ringhall/ringkeep2.PagesOwn", spec := "pagesOwn", inPlace := ["slices.overlaps[ringhall/reclaim.Item]", "slices.overlaps[ringhall/pages.Page]"], unfollowed := true, recurses := true, plainKeys := false, apart := false }
def PagesOwnSaid : Prop := pagesOwnRow.holds Try.pinned (OpenSpec.ofChange pagesOwnSpec)

/-- ITS FALSE NEIGHBOUR: 'it returns false'. Refute it at one input. -/
def pagesOwnWrong : ChangeSpec := { name := "pagesOwn", fn := fun _ => fun
  | [d1, d2, d3, d4, d5] => { results := [.lit (.bool false)], args := [d1, d2, d3, d4, d5] }
  | _ => none }
def PagesOwnWrongFalsely : Prop := pagesOwnRow.holds Try.pinned (OpenSpec.ofChange pagesOwnWrong)

/-- 'ringkeep2.TableOwn': WHATEVER THE INPUT: true; the input reads as it did. -/
def tableOwnSpec : ChangeSpec := { name := "tableOwn", fn := fun _ => fun
  | [d1, d2, d3, d4, d5, d6, d7] => { results := [.lit (.bool true)], args := [d1, d2, d3, d4, d5, d6, d7] }
  | _ => none }
def tableOwnRow : OpenClaim := { program := "ytebpjfdbjhodiaa", sum := "269743a684854d12e2d7b78e13296d04c8126d71680f5d80235799818efacf12", func := "ringhall/ringkeep2.TableOwn", spec := "tableOwn", inPlace := ["slices.overlaps[ringhall/area.Area]"], unfollowed := true, recurses := true, plainKeys := false, apart := false }
def TableOwnSaid : Prop := tableOwnRow.holds Try.pinned (OpenSpec.ofChange tableOwnSpec)

/-- ITS FALSE NEIGHBOUR: 'it returns false'. Refute it at one input. -/
def tableOwnWrong : ChangeSpec := { name := "tableOwn", fn := fun _ => fun
  | [d1, d2, d3, d4, d5, d6, d7] => { results := [.lit (.bool false)], args := [d1, d2, d3, d4, d5, d6, d7] }
  | _ => none }
def TableOwnWrongFalsely : Prop := tableOwnRow.holds Try.pinned (OpenSpec.ofChange tableOwnWrong)

/-- 'ringkeep2.FrameOwn': WHATEVER THE INPUT: true; the input reads as it did. -/
def frameOwnSpec : ChangeSpec := { name := "frameOwn", fn := fun _ => fun
  | [d1, d2, d3, d4, d5, d6, d7] => { results := [.lit (.bool true)], args := [d1, d2, d3, d4, d5, d6, d7] }
  | _ => none }
def frameOwnRow : OpenClaim := { program := "ytebpjfdbjhodiaa", sum := "269743a684854d12e2d7b78e13296d04c8126d71680f5d80235799818efacf12", func := "ringhall/ringkeep2.FrameOwn", spec := "frameOwn", inPlace := ["slices.overlaps[int]", "slices.overlaps[ringhall/slab.Box]", "slices.overlaps[ringhall/twin.Room]"], unfollowed := true, recurses := true, plainKeys := false, apart := false }
def FrameOwnSaid : Prop := frameOwnRow.holds Try.pinned (OpenSpec.ofChange frameOwnSpec)

/-- ITS FALSE NEIGHBOUR: 'it returns false'. Refute it at one input. -/
def frameOwnWrong : ChangeSpec := { name := "frameOwn", fn := fun _ => fun
  | [d1, d2, d3, d4, d5, d6, d7] => { results := [.lit (.bool false)], args := [d1, d2, d3, d4, d5, d6, d7] }
  | _ => none }
def FrameOwnWrongFalsely : Prop := frameOwnRow.holds Try.pinned (OpenSpec.ofChange frameOwnWrong)

/-- 'ringkeep2.CowOwn': WHATEVER THE INPUT: true; the input reads as it did. -/
def cowOwnSpec : ChangeSpec := { name := "cowOwn", fn := fun _ => fun
  | [d1, d2, d3, d4, d5, d6] => { results := [.lit (.bool true)], args := [d1, d2, d3, d4, d5, d6] }
  | _ => none }
def cowOwnRow : OpenClaim := { program := "ytebpjfdbjhodiaa", sum := "269743a684854d12e2d7b78e13296d04c8126d71680f5d80235799818efacf12", func := "ringhall/ringkeep2.CowOwn", spec := "cowOwn", inPlace := ["slices.overlaps[ringhall/rmap.Pair]"], unfollowed := true, recurses := true, plainKeys := false, apart := false }
def CowOwnSaid : Prop := cowOwnRow.holds Try.pinned (OpenSpec.ofChange cowOwnSpec)

/-- ITS FALSE NEIGHBOUR: 'it returns false'. Refute it at one input. -/
def cowOwnWrong : ChangeSpec := { name := "cowOwn", fn := fun _ => fun
  | [d1, d2, d3, d4, d5, d6] => { results := [.lit (.bool false)], args := [d1, d2, d3, d4, d5, d6] }
  | _ => none }
def CowOwnWrongFalsely : Prop := cowOwnRow.holds Try.pinned (OpenSpec.ofChange cowOwnWrong)

/-- 'ringkeep2.CowPlain': WHATEVER THE INPUT: true; the input reads as it did. -/
def cowPlainSpec : ChangeSpec := { name := "cowPlain", fn := fun _ => fun
  | [d] => { results := [.lit (.bool true)], args := [d] }
  | _ => none }
def cowPlainRow : OpenClaim := { program := "ytebpjfdbjhodiaa", sum := "269743a684854d12e2d7b78e13296d04c8126d71680f5d80235799818efacf12", func := "ringhall/ringkeep2.CowPlain", spec := "cowPlain", unfollowed := true, recurses := true, plainKeys := false, apart := false }
def CowPlainSaid : Prop := cowPlainRow.holds Try.pinned (OpenSpec.ofChange cowPlainSpec)

/-- ITS FALSE NEIGHBOUR: 'it returns false'. Refute it at one input. -/
def cowPlainWrong : ChangeSpec := { name := "cowPlain", fn := fun _ => fun
  | [d] => { results := [.lit (.bool false)], args := [d] }
  | _ => none }
def CowPlainWrongFalsely : Prop := cowPlainRow.holds Try.pinned (OpenSpec.ofChange cowPlainWrong)

/- THE SECOND FORM. 'bulk': how many values and letters a reading holds, each counted each time it is reached (what is shared counts as often as it is met; a slice's spare places count too). A statement '..UptoSaid' is the law's where the arguments, and the package variables that the reading takes, are together of bulk at most 1048576: NARROWER than '..Said'. Prove '..Said' where nothing that the law and all that it calls make is longer than what came in: it says more and counts as full. Else prove '..UptoSaid'. A law counts once. -/
mutual
def uptoBulk {H : Type} : DataW H → Nat
  | .lit (.string bytes) => bytes.length + 1
  | .lit _ => 1
  | .nil => 1
  | .ptr d => uptoBulk d + 1
  | .slice elems spare => uptoBulkAll elems + uptoBulkAll spare + 1
  | .agg parts => uptoBulkAll parts + 1
  | .iface _ d => uptoBulk d + 1
  | .map entries => uptoBulkEntries entries + 1
  | .held _ => 1
def uptoBulkAll {H : Type} : List (DataW H) → Nat
  | [] => 0
  | d :: r => uptoBulk d + uptoBulkAll r
def uptoBulkEntries {H : Type} : List (Lit × DataW H) → Nat
  | [] => 0
  | x :: r => uptoBulkEntry x + uptoBulkEntries r
def uptoBulkEntry {H : Type} : Lit × DataW H → Nat
  | (.string bytes, d) => bytes.length + uptoBulk d + 1
  | (_, d) => uptoBulk d + 1
 end
def uptoSmall : (H : Type) → List (DataW H) → Bool := fun _ ds => decide (uptoBulkAll ds ≤ 1048576)
def OpenSpec.upto (s : _root_.Go.ChangeSpec) : _root_.Go.OpenSpec := { _root_.Go.OpenSpec.ofChange s with cond := some uptoSmall }

/-- 'ringkeep2.PagesOwn', WHERE WHAT IT READS IS OF BULK AT MOST 1048576: true; the input reads as it did. -/
def pagesOwnUptoRow : OpenClaim := { program := "ytebpjfdbjhodiaa", sum := "269743a684854d12e2d7b78e13296d04c8126d71680f5d80235799818efacf12", func := "ringhall/ringkeep2.PagesOwn", spec := "pagesOwn", inPlace := ["slices.overlaps[ringhall/reclaim.Item]", "slices.overlaps[ringhall/pages.Page]"], unfollowed := true, recurses := true, plainKeys := false, apart := false, narrowed := true }
def PagesOwnUptoSaid : Prop := pagesOwnUptoRow.holds Try.pinned (OpenSpec.upto pagesOwnSpec)

/-- 'ringkeep2.TableOwn', WHERE WHAT IT READS IS OF BULK AT MOST 1048576: true; the input reads as it did. -/
def tableOwnUptoRow : OpenClaim := { program := "ytebpjfdbjhodiaa", sum := "269743a684854d12e2d7b78e13296d04c8126d71680f5d80235799818efacf12", func := "ringhall/ringkeep2.TableOwn", spec := "tableOwn", inPlace := ["slices.overlaps[ringhall/area.Area]"], unfollowed := true, recurses := true, plainKeys := false, apart := false, narrowed := true }
def TableOwnUptoSaid : Prop := tableOwnUptoRow.holds Try.pinned (OpenSpec.upto tableOwnSpec)

/-- 'ringkeep2.FrameOwn', WHERE WHAT IT READS IS OF BULK AT MOST 1048576: true; the input reads as it did. -/
def frameOwnUptoRow : OpenClaim := { program := "ytebpjfdbjhodiaa", sum := "269743a684854d12e2d7b78e13296d04c8126d71680f5d80235799818efacf12", func := "ringhall/ringkeep2.FrameOwn", spec := "frameOwn", inPlace := ["slices.overlaps[int]", "slices.overlaps[ringhall/slab.Box]", "slices.overlaps[ringhall/twin.Room]"], unfollowed := true, recurses := true, plainKeys := false, apart := false, narrowed := true }
def FrameOwnUptoSaid : Prop := frameOwnUptoRow.holds Try.pinned (OpenSpec.upto frameOwnSpec)

/-- 'ringkeep2.CowOwn', WHERE WHAT IT READS IS OF BULK AT MOST 1048576: true; the input reads as it did. -/
def cowOwnUptoRow : OpenClaim := { program := "ytebpjfdbjhodiaa", sum := "269743a684854d12e2d7b78e13296d04c8126d71680f5d80235799818efacf12", func := "ringhall/ringkeep2.CowOwn", spec := "cowOwn", inPlace := ["slices.overlaps[ringhall/rmap.Pair]"], unfollowed := true, recurses := true, plainKeys := false, apart := false, narrowed := true }
def CowOwnUptoSaid : Prop := cowOwnUptoRow.holds Try.pinned (OpenSpec.upto cowOwnSpec)

/-- 'ringkeep2.CowPlain', WHERE WHAT IT READS IS OF BULK AT MOST 1048576: true; the input reads as it did. -/
def cowPlainUptoRow : OpenClaim := { program := "ytebpjfdbjhodiaa", sum := "269743a684854d12e2d7b78e13296d04c8126d71680f5d80235799818efacf12", func := "ringhall/ringkeep2.CowPlain", spec := "cowPlain", unfollowed := true, recurses := true, plainKeys := false, apart := false, narrowed := true }
def CowPlainUptoSaid : Prop := cowPlainUptoRow.holds Try.pinned (OpenSpec.upto cowPlainSpec)

end Rows
end Go.Proofs.Ytebpjfdbjhodiaa
