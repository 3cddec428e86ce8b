/-
  No cell of these rows narrows 'for every input' (looked for: loops, veiled, ifaces, maps, wideKeys, modest, calm, conditions, laid).
  DERIVED. THE GIVEN ROWS OF THIS SEAT. 9 by the template 'for every input the law returns true; each argument reads behind the call as it read before'; 0 by the template 'total and deterministic' (their statements: YtfiindblaopaiaaTotals.lean).
  GIVEN WITH THE SEED: the statements are not yours to turn. If you find one false, say at which input.
  Laid BY PROGRAM, IN A SANDBOX (cutbox-rows.mjs): the forced cells as the released guide's own fill.sh prints them over the translation 8fb3a92ead4f7013… (all of the seat's roots in one cut). By AI agents, Wed Nov 11 2026. No macro, syntax, notation, axiom, sorry.
-/
import Derived.Test.YtfiindblaopaiaaChecked
import GoSem.Claim
import GoSem.ClaimJoined
import GoSem.ClaimMapViews
import Derived.JoinedTies
import Derived.KernelRfl
namespace Go.Proofs.Ytfiindblaopaiaa
/- THE CELL 'sum', in the pinned program and in every row, IS THE sha256 OF THE DUMP (.gsa) THAT YtfiindblaopaiaaProg.lean LOADS. Nothing in Lean hashes anything: it is a label: what it is worth is what the hold of that sum in a sandbox is worth. -/
noncomputable def Try.pinned : Pinned := { name := "ytfiindblaopaiaa", sum := "8fb3a92ead4f7013a833a86410f792e143d1bc30eb5960dc80dd947f363a6810", checked := Try.checked }
namespace Rows
def none {H : Type} : Left H := { results := [], args := [] }

/-- 'ringkeep2.SlabTight': WHATEVER THE INPUT: true; the input reads as it did. -/
def slabTightSpec : ChangeSpec := { name := "slabTight", fn := fun _ => fun
  | [d1, d2] => { results := [.lit (.bool true)], args := [d1, d2] }
  | _ => none }
def slabTightRow : OpenClaim := { program := "ytfiindblaopaiaa", sum := "8fb3a92ead4f7013a833a86410f792e143d1bc30eb5960dc80dd947f363a6810", func := "ringhall/ringkeep2.SlabTight", spec := "slabTight", inPlace := ["slices.overlaps[int]", "slices.overlaps[ringhall/slab.Box]"], unfollowed := true, recurses := true, apart := false }
def SlabTightSaid : Prop := slabTightRow.holds Try.pinned (OpenSpec.ofChange slabTightSpec)

/-- ITS FALSE NEIGHBOUR: 'it returns false'. Refute it at one input. -/
def slabTightWrong : ChangeSpec := { name := "slabTight", fn := fun _ => fun
  | [d1, d2] => { results := [.lit (.bool false)], args := [d1, d2] }
  | _ => none }
def SlabTightWrongFalsely : Prop := slabTightRow.holds Try.pinned (OpenSpec.ofChange slabTightWrong)

/-- 'ringkeep2.SlabOnce': WHATEVER THE INPUT: true; the input reads as it did. -/
def slabOnceSpec : ChangeSpec := { name := "slabOnce", fn := fun _ => fun
  | [d1, d2, d3] => { results := [.lit (.bool true)], args := [d1, d2, d3] }
  | _ => none }
def slabOnceRow : OpenClaim := { program := "ytfiindblaopaiaa", sum := "8fb3a92ead4f7013a833a86410f792e143d1bc30eb5960dc80dd947f363a6810", func := "ringhall/ringkeep2.SlabOnce", spec := "slabOnce", inPlace := ["slices.overlaps[int]", "slices.overlaps[ringhall/slab.Box]"], unfollowed := true, recurses := true, apart := false }
def SlabOnceSaid : Prop := slabOnceRow.holds Try.pinned (OpenSpec.ofChange slabOnceSpec)

/-- ITS FALSE NEIGHBOUR: 'it returns false'. Refute it at one input. -/
def slabOnceWrong : ChangeSpec := { name := "slabOnce", fn := fun _ => fun
  | [d1, d2, d3] => { results := [.lit (.bool false)], args := [d1, d2, d3] }
  | _ => none }
def SlabOnceWrongFalsely : Prop := slabOnceRow.holds Try.pinned (OpenSpec.ofChange slabOnceWrong)

/-- 'ringkeep2.SlabTurns': WHATEVER THE INPUT: true; the input reads as it did. -/
def slabTurnsSpec : ChangeSpec := { name := "slabTurns", fn := fun _ => fun
  | [d1, d2] => { results := [.lit (.bool true)], args := [d1, d2] }
  | _ => none }
def slabTurnsRow : OpenClaim := { program := "ytfiindblaopaiaa", sum := "8fb3a92ead4f7013a833a86410f792e143d1bc30eb5960dc80dd947f363a6810", func := "ringhall/ringkeep2.SlabTurns", spec := "slabTurns", inPlace := ["slices.overlaps[int]", "slices.overlaps[ringhall/slab.Box]"], unfollowed := true, recurses := true, apart := false }
def SlabTurnsSaid : Prop := slabTurnsRow.holds Try.pinned (OpenSpec.ofChange slabTurnsSpec)

/-- ITS FALSE NEIGHBOUR: 'it returns false'. Refute it at one input. -/
def slabTurnsWrong : ChangeSpec := { name := "slabTurns", fn := fun _ => fun
  | [d1, d2] => { results := [.lit (.bool false)], args := [d1, d2] }
  | _ => none }
def SlabTurnsWrongFalsely : Prop := slabTurnsRow.holds Try.pinned (OpenSpec.ofChange slabTurnsWrong)

/-- 'ringkeep2.CowAgain': WHATEVER THE INPUT: true; the input reads as it did. -/
def cowAgainSpec : ChangeSpec := { name := "cowAgain", fn := fun _ => fun
  | [d1, d2, d3, d4, d5] => { results := [.lit (.bool true)], args := [d1, d2, d3, d4, d5] }
  | _ => none }
def cowAgainRow : OpenClaim := { program := "ytfiindblaopaiaa", sum := "8fb3a92ead4f7013a833a86410f792e143d1bc30eb5960dc80dd947f363a6810", func := "ringhall/ringkeep2.CowAgain", spec := "cowAgain", apart := false }
def CowAgainSaid : Prop := cowAgainRow.holds Try.pinned (OpenSpec.ofChange cowAgainSpec)

/-- ITS FALSE NEIGHBOUR: 'it returns false'. Refute it at one input. -/
def cowAgainWrong : ChangeSpec := { name := "cowAgain", fn := fun _ => fun
  | [d1, d2, d3, d4, d5] => { results := [.lit (.bool false)], args := [d1, d2, d3, d4, d5] }
  | _ => none }
def CowAgainWrongFalsely : Prop := cowAgainRow.holds Try.pinned (OpenSpec.ofChange cowAgainWrong)

/-- 'ringkeep2.CowForks': WHATEVER THE INPUT: true; the input reads as it did. -/
def cowForksSpec : ChangeSpec := { name := "cowForks", fn := fun _ => fun
  | [d1, d2] => { results := [.lit (.bool true)], args := [d1, d2] }
  | _ => none }
def cowForksRow : OpenClaim := { program := "ytfiindblaopaiaa", sum := "8fb3a92ead4f7013a833a86410f792e143d1bc30eb5960dc80dd947f363a6810", func := "ringhall/ringkeep2.CowForks", spec := "cowForks", unfollowed := true, recurses := true, apart := false }
def CowForksSaid : Prop := cowForksRow.holds Try.pinned (OpenSpec.ofChange cowForksSpec)

/-- ITS FALSE NEIGHBOUR: 'it returns false'. Refute it at one input. -/
def cowForksWrong : ChangeSpec := { name := "cowForks", fn := fun _ => fun
  | [d1, d2] => { results := [.lit (.bool false)], args := [d1, d2] }
  | _ => none }
def CowForksWrongFalsely : Prop := cowForksRow.holds Try.pinned (OpenSpec.ofChange cowForksWrong)

/-- 'ringkeep2.CowWrites': WHATEVER THE INPUT: true; the input reads as it did. -/
def cowWritesSpec : ChangeSpec := { name := "cowWrites", fn := fun _ => fun
  | [d1, d2, d3, d4] => { results := [.lit (.bool true)], args := [d1, d2, d3, d4] }
  | _ => none }
def cowWritesRow : OpenClaim := { program := "ytfiindblaopaiaa", sum := "8fb3a92ead4f7013a833a86410f792e143d1bc30eb5960dc80dd947f363a6810", func := "ringhall/ringkeep2.CowWrites", spec := "cowWrites", unfollowed := true, recurses := true, apart := false }
def CowWritesSaid : Prop := cowWritesRow.holds Try.pinned (OpenSpec.ofChange cowWritesSpec)

/-- ITS FALSE NEIGHBOUR: 'it returns false'. Refute it at one input. -/
def cowWritesWrong : ChangeSpec := { name := "cowWrites", fn := fun _ => fun
  | [d1, d2, d3, d4] => { results := [.lit (.bool false)], args := [d1, d2, d3, d4] }
  | _ => none }
def CowWritesWrongFalsely : Prop := cowWritesRow.holds Try.pinned (OpenSpec.ofChange cowWritesWrong)

/-- 'ringkeep2.CowDrops': WHATEVER THE INPUT: true; the input reads as it did. -/
def cowDropsSpec : ChangeSpec := { name := "cowDrops", fn := fun _ => fun
  | [d1, d2] => { results := [.lit (.bool true)], args := [d1, d2] }
  | _ => none }
def cowDropsRow : OpenClaim := { program := "ytfiindblaopaiaa", sum := "8fb3a92ead4f7013a833a86410f792e143d1bc30eb5960dc80dd947f363a6810", func := "ringhall/ringkeep2.CowDrops", spec := "cowDrops", unfollowed := true, recurses := true, apart := false }
def CowDropsSaid : Prop := cowDropsRow.holds Try.pinned (OpenSpec.ofChange cowDropsSpec)

/-- ITS FALSE NEIGHBOUR: 'it returns false'. Refute it at one input. -/
def cowDropsWrong : ChangeSpec := { name := "cowDrops", fn := fun _ => fun
  | [d1, d2] => { results := [.lit (.bool false)], args := [d1, d2] }
  | _ => none }
def CowDropsWrongFalsely : Prop := cowDropsRow.holds Try.pinned (OpenSpec.ofChange cowDropsWrong)

/-- 'ringkeep2.CowTurns': WHATEVER THE INPUT: true; the input reads as it did. -/
def cowTurnsSpec : ChangeSpec := { name := "cowTurns", fn := fun _ => fun
  | [d1, d2] => { results := [.lit (.bool true)], args := [d1, d2] }
  | _ => none }
def cowTurnsRow : OpenClaim := { program := "ytfiindblaopaiaa", sum := "8fb3a92ead4f7013a833a86410f792e143d1bc30eb5960dc80dd947f363a6810", func := "ringhall/ringkeep2.CowTurns", spec := "cowTurns", unfollowed := true, recurses := true, apart := false }
def CowTurnsSaid : Prop := cowTurnsRow.holds Try.pinned (OpenSpec.ofChange cowTurnsSpec)

/-- ITS FALSE NEIGHBOUR: 'it returns false'. Refute it at one input. -/
def cowTurnsWrong : ChangeSpec := { name := "cowTurns", fn := fun _ => fun
  | [d1, d2] => { results := [.lit (.bool false)], args := [d1, d2] }
  | _ => none }
def CowTurnsWrongFalsely : Prop := cowTurnsRow.holds Try.pinned (OpenSpec.ofChange cowTurnsWrong)

/-- 'ringkeep2.CowPlain': WHATEVER THE INPUT: true; the input reads as it did. -/
def cowPlainSpec : ChangeSpec := { name := "cowPlain", fn := fun _ => fun
  | [d] => { results := [.lit (.bool true)], args := [d] }
  | _ => none }
def cowPlainRow : OpenClaim := { program := "ytfiindblaopaiaa", sum := "8fb3a92ead4f7013a833a86410f792e143d1bc30eb5960dc80dd947f363a6810", func := "ringhall/ringkeep2.CowPlain", spec := "cowPlain", unfollowed := true, recurses := true, apart := false }
def CowPlainSaid : Prop := cowPlainRow.holds Try.pinned (OpenSpec.ofChange cowPlainSpec)

/-- ITS FALSE NEIGHBOUR: 'it returns false'. Refute it at one input. -/
def cowPlainWrong : ChangeSpec := { name := "cowPlain", fn := fun _ => fun
  | [d] => { results := [.lit (.bool false)], args := [d] }
  | _ => none }
def CowPlainWrongFalsely : Prop := cowPlainRow.holds Try.pinned (OpenSpec.ofChange cowPlainWrong)

/- THE SECOND FORM. 'bulk': how many values and letters a reading holds, each counted each time it is reached (what is shared counts as often as it is met; a slice's spare places count too). A statement '..UptoSaid' is the law's where the arguments, and the package variables that the reading takes, are together of bulk at most 1048576: NARROWER than '..Said'. Prove '..Said' where nothing that the law and all that it calls make is longer than what came in: it says more and counts as full. Else prove '..UptoSaid'. A law counts once. -/
mutual
def uptoBulk {H : Type} : DataW H → Nat
  | .lit (.string bytes) => bytes.length + 1
  | .lit _ => 1
  | .nil => 1
  | .ptr d => uptoBulk d + 1
  | .slice elems spare => uptoBulkAll elems + uptoBulkAll spare + 1
  | .agg parts => uptoBulkAll parts + 1
  | .iface _ d => uptoBulk d + 1
  | .map entries => uptoBulkEntries entries + 1
  | .held _ => 1
def uptoBulkAll {H : Type} : List (DataW H) → Nat
  | [] => 0
  | d :: r => uptoBulk d + uptoBulkAll r
def uptoBulkEntries {H : Type} : List (Lit × DataW H) → Nat
  | [] => 0
  | x :: r => uptoBulkEntry x + uptoBulkEntries r
def uptoBulkEntry {H : Type} : Lit × DataW H → Nat
  | (.string bytes, d) => bytes.length + uptoBulk d + 1
  | (_, d) => uptoBulk d + 1
 end
def uptoSmall : (H : Type) → List (DataW H) → Bool := fun _ ds => decide (uptoBulkAll ds ≤ 1048576)
def OpenSpec.upto (s : _root_.Go.ChangeSpec) : _root_.Go.OpenSpec := { _root_.Go.OpenSpec.ofChange s with cond := some uptoSmall }

/-- 'ringkeep2.SlabTight', WHERE WHAT IT READS IS OF BULK AT MOST 1048576: true; the input reads as it did. -/
def slabTightUptoRow : OpenClaim := { program := "ytfiindblaopaiaa", sum := "8fb3a92ead4f7013a833a86410f792e143d1bc30eb5960dc80dd947f363a6810", func := "ringhall/ringkeep2.SlabTight", spec := "slabTight", inPlace := ["slices.overlaps[int]", "slices.overlaps[ringhall/slab.Box]"], unfollowed := true, recurses := true, apart := false, narrowed := true }
def SlabTightUptoSaid : Prop := slabTightUptoRow.holds Try.pinned (OpenSpec.upto slabTightSpec)

/-- 'ringkeep2.SlabOnce', WHERE WHAT IT READS IS OF BULK AT MOST 1048576: true; the input reads as it did. -/
def slabOnceUptoRow : OpenClaim := { program := "ytfiindblaopaiaa", sum := "8fb3a92ead4f7013a833a86410f792e143d1bc30eb5960dc80dd947f363a6810", func := "ringhall/ringkeep2.SlabOnce", spec := "slabOnce", inPlace := ["slices.overlaps[int]", "slices.overlaps[ringhall/slab.Box]"], unfollowed := true, recurses := true, apart := false, narrowed := true }
def SlabOnceUptoSaid : Prop := slabOnceUptoRow.holds Try.pinned (OpenSpec.upto slabOnceSpec)

/-- 'ringkeep2.SlabTurns', WHERE WHAT IT READS IS OF BULK AT MOST 1048576: true; the input reads as it did. -/
def slabTurnsUptoRow : OpenClaim := { program := "ytfiindblaopaiaa", sum := "8fb3a92ead4f7013a833a86410f792e143d1bc30eb5960dc80dd947f363a6810", func := "ringhall/ringkeep2.SlabTurns", spec := "slabTurns", inPlace := ["slices.overlaps[int]", "slices.overlaps[ringhall/slab.Box]"], unfollowed := true, recurses := true, apart := false, narrowed := true }
def SlabTurnsUptoSaid : Prop := slabTurnsUptoRow.holds Try.pinned (OpenSpec.upto slabTurnsSpec)

/-- 'ringkeep2.CowAgain', WHERE WHAT IT READS IS OF BULK AT MOST 1048576: true; the input reads as it did. -/
def cowAgainUptoRow : OpenClaim := { program := "ytfiindblaopaiaa", sum := "8fb3a92ead4f7013a833a86410f792e143d1bc30eb5960dc80dd947f363a6810", func := "ringhall/ringkeep2.CowAgain", spec := "cowAgain", apart := false, narrowed := true }
def CowAgainUptoSaid : Prop := cowAgainUptoRow.holds Try.pinned (OpenSpec.upto cowAgainSpec)

/-- 'ringkeep2.CowForks', WHERE WHAT IT READS IS OF BULK AT MOST 1048576: true; the input reads as it did. -/
def cowForksUptoRow : OpenClaim := { program := "ytfiindblaopaiaa", sum := "8fb3a92ead4f7013a833a86410f792e143d1bc30eb5960dc80dd947f363a6810", func := "ringhall/ringkeep2.CowForks", spec := "cowForks", unfollowed := true, recurses := true, apart := false, narrowed := true }
def CowForksUptoSaid : Prop := cowForksUptoRow.holds Try.pinned (OpenSpec.upto cowForksSpec)

/-- 'ringkeep2.CowWrites', WHERE WHAT IT READS IS OF BULK AT MOST 1048576: true; the input reads as it did. -/
def cowWritesUptoRow : OpenClaim := { program := "ytfiindblaopaiaa", sum := "8fb3a92ead4f7013a833a86410f792e143d1bc30eb5960dc80dd947f363a6810", func := "ringhall/ringkeep2.CowWrites", spec := "cowWrites", unfollowed := true, recurses := true, apart := false, narrowed := true }
def CowWritesUptoSaid : Prop := cowWritesUptoRow.holds Try.pinned (OpenSpec.upto cowWritesSpec)

/-- 'ringkeep2.CowDrops', WHERE WHAT IT READS IS OF BULK AT MOST 1048576: true; the input reads as it did. -/
def cowDropsUptoRow : OpenClaim := { program := "ytfiindblaopaiaa", sum := "8fb3a92ead4f7013a833a86410f792e143d1bc30eb5960dc80dd947f363a6810", func := "ringhall/ringkeep2.CowDrops", spec := "cowDrops", unfollowed := true, recurses := true, apart := false, narrowed := true }
def CowDropsUptoSaid : Prop := cowDropsUptoRow.holds Try.pinned (OpenSpec.upto cowDropsSpec)

/-- 'ringkeep2.CowTurns', WHERE WHAT IT READS IS OF BULK AT MOST 1048576: true; the input reads as it did. -/
def cowTurnsUptoRow : OpenClaim := { program := "ytfiindblaopaiaa", sum := "8fb3a92ead4f7013a833a86410f792e143d1bc30eb5960dc80dd947f363a6810", func := "ringhall/ringkeep2.CowTurns", spec := "cowTurns", unfollowed := true, recurses := true, apart := false, narrowed := true }
def CowTurnsUptoSaid : Prop := cowTurnsUptoRow.holds Try.pinned (OpenSpec.upto cowTurnsSpec)

/-- 'ringkeep2.CowPlain', WHERE WHAT IT READS IS OF BULK AT MOST 1048576: true; the input reads as it did. -/
def cowPlainUptoRow : OpenClaim := { program := "ytfiindblaopaiaa", sum := "8fb3a92ead4f7013a833a86410f792e143d1bc30eb5960dc80dd947f363a6810", func := "ringhall/ringkeep2.CowPlain", spec := "cowPlain", unfollowed := true, recurses := true, apart := false, narrowed := true }
def CowPlainUptoSaid : Prop := cowPlainUptoRow.holds Try.pinned (OpenSpec.upto cowPlainSpec)

end Rows
end Go.Proofs.Ytfiindblaopaiaa
