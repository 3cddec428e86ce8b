/-
  No cell of these rows narrows 'for every input' (looked for: loops, veiled, ifaces, maps, wideKeys, modest, calm, conditions, laid).
  DERIVED. THE GIVEN ROWS OF THIS SEAT. 8 by the template 'for every input the law returns true; each argument reads behind the call as it read before'; 0 by the template 'total and deterministic' (their statements: YtdhpgdfjogklaaaTotals.lean).
  GIVEN WITH THE SEED: the statements are not yours to turn. If you find one false, say at which input.
  Laid BY PROGRAM, IN A SANDBOX (cutbox-rows.mjs): the forced cells as the released guide's own fill.sh prints them over the translation f43d0d837f5e9f2c… (all of the seat's roots in one cut). By AI agents, Wed Nov 11 2026. No macro, syntax, notation, axiom, sorry.
-/
import Derived.Test.YtdhpgdfjogklaaaChecked
import GoSem.Claim
import GoSem.ClaimJoined
import GoSem.ClaimMapViews
import Derived.JoinedTies
import Derived.KernelRfl
namespace Go.Proofs.Ytdhpgdfjogklaaa
/- THE CELL 'sum', in the pinned program and in every row, IS THE sha256 OF THE DUMP (.gsa) THAT YtdhpgdfjogklaaaProg.lean LOADS. Nothing in Lean hashes anything: it is a label: what it is worth is what the hold of that sum in a sandbox is worth. -/
noncomputable def Try.pinned : Pinned := { name := "ytdhpgdfjogklaaa", sum := "f43d0d837f5e9f2cc55950914a63dfd2aac0070d839ad70671e2cb7d8dd12632", checked := Try.checked }
namespace Rows
def none {H : Type} : Left H := { results := [], args := [] }

/-- 'ringkeep2.TableSets': WHATEVER THE INPUT: true; the input reads as it did. -/
def tableSetsSpec : ChangeSpec := { name := "tableSets", fn := fun _ => fun
  | [d1, d2, d3, d4] => { results := [.lit (.bool true)], args := [d1, d2, d3, d4] }
  | _ => none }
def tableSetsRow : OpenClaim := { program := "ytdhpgdfjogklaaa", sum := "f43d0d837f5e9f2cc55950914a63dfd2aac0070d839ad70671e2cb7d8dd12632", func := "ringhall/ringkeep2.TableSets", spec := "tableSets", apart := false }
def TableSetsSaid : Prop := tableSetsRow.holds Try.pinned (OpenSpec.ofChange tableSetsSpec)

/-- ITS FALSE NEIGHBOUR: 'it returns false'. Refute it at one input. -/
def tableSetsWrong : ChangeSpec := { name := "tableSets", fn := fun _ => fun
  | [d1, d2, d3, d4] => { results := [.lit (.bool false)], args := [d1, d2, d3, d4] }
  | _ => none }
def TableSetsWrongFalsely : Prop := tableSetsRow.holds Try.pinned (OpenSpec.ofChange tableSetsWrong)

/-- 'ringkeep2.TableLast': WHATEVER THE INPUT: true; the input reads as it did. -/
def tableLastSpec : ChangeSpec := { name := "tableLast", fn := fun _ => fun
  | [d1, d2, d3, d4, d5] => { results := [.lit (.bool true)], args := [d1, d2, d3, d4, d5] }
  | _ => none }
def tableLastRow : OpenClaim := { program := "ytdhpgdfjogklaaa", sum := "f43d0d837f5e9f2cc55950914a63dfd2aac0070d839ad70671e2cb7d8dd12632", func := "ringhall/ringkeep2.TableLast", spec := "tableLast", unfollowed := true, recurses := true, apart := false }
def TableLastSaid : Prop := tableLastRow.holds Try.pinned (OpenSpec.ofChange tableLastSpec)

/-- ITS FALSE NEIGHBOUR: 'it returns false'. Refute it at one input. -/
def tableLastWrong : ChangeSpec := { name := "tableLast", fn := fun _ => fun
  | [d1, d2, d3, d4, d5] => { results := [.lit (.bool false)], args := [d1, d2, d3, d4, d5] }
  | _ => none }
def TableLastWrongFalsely : Prop := tableLastRow.holds Try.pinned (OpenSpec.ofChange tableLastWrong)

/-- 'ringkeep2.TableEmpty': WHATEVER THE INPUT: true; the input reads as it did. -/
def tableEmptySpec : ChangeSpec := { name := "tableEmpty", fn := fun _ => fun
  | [d] => { results := [.lit (.bool true)], args := [d] }
  | _ => none }
def tableEmptyRow : OpenClaim := { program := "ytdhpgdfjogklaaa", sum := "f43d0d837f5e9f2cc55950914a63dfd2aac0070d839ad70671e2cb7d8dd12632", func := "ringhall/ringkeep2.TableEmpty", spec := "tableEmpty", apart := false }
def TableEmptySaid : Prop := tableEmptyRow.holds Try.pinned (OpenSpec.ofChange tableEmptySpec)

/-- ITS FALSE NEIGHBOUR: 'it returns false'. Refute it at one input. -/
def tableEmptyWrong : ChangeSpec := { name := "tableEmpty", fn := fun _ => fun
  | [d] => { results := [.lit (.bool false)], args := [d] }
  | _ => none }
def TableEmptyWrongFalsely : Prop := tableEmptyRow.holds Try.pinned (OpenSpec.ofChange tableEmptyWrong)

/-- 'ringkeep2.TableHuge': WHATEVER THE INPUT: true; the input reads as it did. -/
def tableHugeSpec : ChangeSpec := { name := "tableHuge", fn := fun _ => fun
  | [d1, d2, d3] => { results := [.lit (.bool true)], args := [d1, d2, d3] }
  | _ => none }
def tableHugeRow : OpenClaim := { program := "ytdhpgdfjogklaaa", sum := "f43d0d837f5e9f2cc55950914a63dfd2aac0070d839ad70671e2cb7d8dd12632", func := "ringhall/ringkeep2.TableHuge", spec := "tableHuge", unfollowed := true, recurses := true, apart := false }
def TableHugeSaid : Prop := tableHugeRow.holds Try.pinned (OpenSpec.ofChange tableHugeSpec)

/-- ITS FALSE NEIGHBOUR: 'it returns false'. Refute it at one input. -/
def tableHugeWrong : ChangeSpec := { name := "tableHuge", fn := fun _ => fun
  | [d1, d2, d3] => { results := [.lit (.bool false)], args := [d1, d2, d3] }
  | _ => none }
def TableHugeWrongFalsely : Prop := tableHugeRow.holds Try.pinned (OpenSpec.ofChange tableHugeWrong)

/-- 'ringkeep2.TlbFills': WHATEVER THE INPUT: true; the input reads as it did. -/
def tlbFillsSpec : ChangeSpec := { name := "tlbFills", fn := fun _ => fun
  | [d1, d2, d3, d4, d5, d6] => { results := [.lit (.bool true)], args := [d1, d2, d3, d4, d5, d6] }
  | _ => none }
def tlbFillsRow : OpenClaim := { program := "ytdhpgdfjogklaaa", sum := "f43d0d837f5e9f2cc55950914a63dfd2aac0070d839ad70671e2cb7d8dd12632", func := "ringhall/ringkeep2.TlbFills", spec := "tlbFills", unfollowed := true, recurses := true, apart := false }
def TlbFillsSaid : Prop := tlbFillsRow.holds Try.pinned (OpenSpec.ofChange tlbFillsSpec)

/-- ITS FALSE NEIGHBOUR: 'it returns false'. Refute it at one input. -/
def tlbFillsWrong : ChangeSpec := { name := "tlbFills", fn := fun _ => fun
  | [d1, d2, d3, d4, d5, d6] => { results := [.lit (.bool false)], args := [d1, d2, d3, d4, d5, d6] }
  | _ => none }
def TlbFillsWrongFalsely : Prop := tlbFillsRow.holds Try.pinned (OpenSpec.ofChange tlbFillsWrong)

/-- 'ringkeep2.TlbLate': WHATEVER THE INPUT: true; the input reads as it did. -/
def tlbLateSpec : ChangeSpec := { name := "tlbLate", fn := fun _ => fun
  | [d1, d2, d3, d4, d5, d6, d7] => { results := [.lit (.bool true)], args := [d1, d2, d3, d4, d5, d6, d7] }
  | _ => none }
def tlbLateRow : OpenClaim := { program := "ytdhpgdfjogklaaa", sum := "f43d0d837f5e9f2cc55950914a63dfd2aac0070d839ad70671e2cb7d8dd12632", func := "ringhall/ringkeep2.TlbLate", spec := "tlbLate", unfollowed := true, recurses := true, apart := false }
def TlbLateSaid : Prop := tlbLateRow.holds Try.pinned (OpenSpec.ofChange tlbLateSpec)

/-- ITS FALSE NEIGHBOUR: 'it returns false'. Refute it at one input. -/
def tlbLateWrong : ChangeSpec := { name := "tlbLate", fn := fun _ => fun
  | [d1, d2, d3, d4, d5, d6, d7] => { results := [.lit (.bool false)], args := [d1, d2, d3, d4, d5, d6, d7] }
  | _ => none }
def TlbLateWrongFalsely : Prop := tlbLateRow.holds Try.pinned (OpenSpec.ofChange tlbLateWrong)

/-- 'ringkeep2.TlbKeeps': WHATEVER THE INPUT: true; the input reads as it did. -/
def tlbKeepsSpec : ChangeSpec := { name := "tlbKeeps", fn := fun _ => fun
  | [d1, d2, d3, d4, d5, d6] => { results := [.lit (.bool true)], args := [d1, d2, d3, d4, d5, d6] }
  | _ => none }
def tlbKeepsRow : OpenClaim := { program := "ytdhpgdfjogklaaa", sum := "f43d0d837f5e9f2cc55950914a63dfd2aac0070d839ad70671e2cb7d8dd12632", func := "ringhall/ringkeep2.TlbKeeps", spec := "tlbKeeps", unfollowed := true, recurses := true, apart := false }
def TlbKeepsSaid : Prop := tlbKeepsRow.holds Try.pinned (OpenSpec.ofChange tlbKeepsSpec)

/-- ITS FALSE NEIGHBOUR: 'it returns false'. Refute it at one input. -/
def tlbKeepsWrong : ChangeSpec := { name := "tlbKeeps", fn := fun _ => fun
  | [d1, d2, d3, d4, d5, d6] => { results := [.lit (.bool false)], args := [d1, d2, d3, d4, d5, d6] }
  | _ => none }
def TlbKeepsWrongFalsely : Prop := tlbKeepsRow.holds Try.pinned (OpenSpec.ofChange tlbKeepsWrong)

/-- 'ringkeep2.TlbShoots': WHATEVER THE INPUT: true; the input reads as it did. -/
def tlbShootsSpec : ChangeSpec := { name := "tlbShoots", fn := fun _ => fun
  | [d1, d2, d3, d4] => { results := [.lit (.bool true)], args := [d1, d2, d3, d4] }
  | _ => none }
def tlbShootsRow : OpenClaim := { program := "ytdhpgdfjogklaaa", sum := "f43d0d837f5e9f2cc55950914a63dfd2aac0070d839ad70671e2cb7d8dd12632", func := "ringhall/ringkeep2.TlbShoots", spec := "tlbShoots", unfollowed := true, recurses := true, apart := false }
def TlbShootsSaid : Prop := tlbShootsRow.holds Try.pinned (OpenSpec.ofChange tlbShootsSpec)

/-- ITS FALSE NEIGHBOUR: 'it returns false'. Refute it at one input. -/
def tlbShootsWrong : ChangeSpec := { name := "tlbShoots", fn := fun _ => fun
  | [d1, d2, d3, d4] => { results := [.lit (.bool false)], args := [d1, d2, d3, d4] }
  | _ => none }
def TlbShootsWrongFalsely : Prop := tlbShootsRow.holds Try.pinned (OpenSpec.ofChange tlbShootsWrong)

/- THE SECOND FORM. 'bulk': how many values and letters a reading holds, each counted each time it is reached (what is shared counts as often as it is met; a slice's spare places count too). A statement '..UptoSaid' is the law's where the arguments, and the package variables that the reading takes, are together of bulk at most 1048576: NARROWER than '..Said'. Prove '..Said' where nothing that the law and all that it calls make is longer than what came in: it says more and counts as full. Else prove '..UptoSaid'. A law counts once. -/
mutual
def uptoBulk {H : Type} : DataW H → Nat
  | .lit (.string bytes) => bytes.length + 1
  | .lit _ => 1
  | .nil => 1
  | .ptr d => uptoBulk d + 1
  | .slice elems spare => uptoBulkAll elems + uptoBulkAll spare + 1
  | .agg parts => uptoBulkAll parts + 1
  | .iface _ d => uptoBulk d + 1
  | .map entries => uptoBulkEntries entries + 1
  | .held _ => 1
def uptoBulkAll {H : Type} : List (DataW H) → Nat
  | [] => 0
  | d :: r => uptoBulk d + uptoBulkAll r
def uptoBulkEntries {H : Type} : List (Lit × DataW H) → Nat
  | [] => 0
  | x :: r => uptoBulkEntry x + uptoBulkEntries r
def uptoBulkEntry {H : Type} : Lit × DataW H → Nat
  | (.string bytes, d) => bytes.length + uptoBulk d + 1
  | (_, d) => uptoBulk d + 1
 end
def uptoSmall : (H : Type) → List (DataW H) → Bool := fun _ ds => decide (uptoBulkAll ds ≤ 1048576)
def OpenSpec.upto (s : _root_.Go.ChangeSpec) : _root_.Go.OpenSpec := { _root_.Go.OpenSpec.ofChange s with cond := some uptoSmall }

/-- 'ringkeep2.TableSets', WHERE WHAT IT READS IS OF BULK AT MOST 1048576: true; the input reads as it did. -/
def tableSetsUptoRow : OpenClaim := { program := "ytdhpgdfjogklaaa", sum := "f43d0d837f5e9f2cc55950914a63dfd2aac0070d839ad70671e2cb7d8dd12632", func := "ringhall/ringkeep2.TableSets", spec := "tableSets", apart := false, narrowed := true }
def TableSetsUptoSaid : Prop := tableSetsUptoRow.holds Try.pinned (OpenSpec.upto tableSetsSpec)

/-- 'ringkeep2.TableLast', WHERE WHAT IT READS IS OF BULK AT MOST 1048576: true; the input reads as it did. -/
def tableLastUptoRow : OpenClaim := { program := "ytdhpgdfjogklaaa", sum := "f43d0d837f5e9f2cc55950914a63dfd2aac0070d839ad70671e2cb7d8dd12632", func := "ringhall/ringkeep2.TableLast", spec := "tableLast", unfollowed := true, recurses := true, apart := false, narrowed := true }
def TableLastUptoSaid : Prop := tableLastUptoRow.holds Try.pinned (OpenSpec.upto tableLastSpec)

/-- 'ringkeep2.TableEmpty', WHERE WHAT IT READS IS OF BULK AT MOST 1048576: true; the input reads as it did. -/
def tableEmptyUptoRow : OpenClaim := { program := "ytdhpgdfjogklaaa", sum := "f43d0d837f5e9f2cc55950914a63dfd2aac0070d839ad70671e2cb7d8dd12632", func := "ringhall/ringkeep2.TableEmpty", spec := "tableEmpty", apart := false, narrowed := true }
def TableEmptyUptoSaid : Prop := tableEmptyUptoRow.holds Try.pinned (OpenSpec.upto tableEmptySpec)

/-- 'ringkeep2.TableHuge', WHERE WHAT IT READS IS OF BULK AT MOST 1048576: true; the input reads as it did. -/
def tableHugeUptoRow : OpenClaim := { program := "ytdhpgdfjogklaaa", sum := "f43d0d837f5e9f2cc55950914a63dfd2aac0070d839ad70671e2cb7d8dd12632", func := "ringhall/ringkeep2.TableHuge", spec := "tableHuge", unfollowed := true, recurses := true, apart := false, narrowed := true }
def TableHugeUptoSaid : Prop := tableHugeUptoRow.holds Try.pinned (OpenSpec.upto tableHugeSpec)

/-- 'ringkeep2.TlbFills', WHERE WHAT IT READS IS OF BULK AT MOST 1048576: true; the input reads as it did. -/
def tlbFillsUptoRow : OpenClaim := { program := "ytdhpgdfjogklaaa", sum := "f43d0d837f5e9f2cc55950914a63dfd2aac0070d839ad70671e2cb7d8dd12632", func := "ringhall/ringkeep2.TlbFills", spec := "tlbFills", unfollowed := true, recurses := true, apart := false, narrowed := true }
def TlbFillsUptoSaid : Prop := tlbFillsUptoRow.holds Try.pinned (OpenSpec.upto tlbFillsSpec)

/-- 'ringkeep2.TlbLate', WHERE WHAT IT READS IS OF BULK AT MOST 1048576: true; the input reads as it did. -/
def tlbLateUptoRow : OpenClaim := { program := "ytdhpgdfjogklaaa", sum := "f43d0d837f5e9f2cc55950914a63dfd2aac0070d839ad70671e2cb7d8dd12632", func := "ringhall/ringkeep2.TlbLate", spec := "tlbLate", unfollowed := true, recurses := true, apart := false, narrowed := true }
def TlbLateUptoSaid : Prop := tlbLateUptoRow.holds Try.pinned (OpenSpec.upto tlbLateSpec)

/-- 'ringkeep2.TlbKeeps', WHERE WHAT IT READS IS OF BULK AT MOST 1048576: true; the input reads as it did. -/
def tlbKeepsUptoRow : OpenClaim := { program := "ytdhpgdfjogklaaa", sum := "f43d0d837f5e9f2cc55950914a63dfd2aac0070d839ad70671e2cb7d8dd12632", func := "ringhall/ringkeep2.TlbKeeps", spec := "tlbKeeps", unfollowed := true, recurses := true, apart := false, narrowed := true }
def TlbKeepsUptoSaid : Prop := tlbKeepsUptoRow.holds Try.pinned (OpenSpec.upto tlbKeepsSpec)

/-- 'ringkeep2.TlbShoots', WHERE WHAT IT READS IS OF BULK AT MOST 1048576: true; the input reads as it did. -/
def tlbShootsUptoRow : OpenClaim := { program := "ytdhpgdfjogklaaa", sum := "f43d0d837f5e9f2cc55950914a63dfd2aac0070d839ad70671e2cb7d8dd12632", func := "ringhall/ringkeep2.TlbShoots", spec := "tlbShoots", unfollowed := true, recurses := true, apart := false, narrowed := true }
def TlbShootsUptoSaid : Prop := tlbShootsUptoRow.holds Try.pinned (OpenSpec.upto tlbShootsSpec)

end Rows
end Go.Proofs.Ytdhpgdfjogklaaa
