/-
  No cell of these rows narrows 'for every input' (looked for: loops, veiled, ifaces, maps, wideKeys, modest, calm, conditions, laid).
  DERIVED. THE GIVEN ROWS OF THIS SEAT. 7 by the template 'for every input the law returns true; each argument reads behind the call as it read before'; 0 by the template 'total and deterministic' (their statements: YtkajpjbjafjbkaaTotals.lean).
  GIVEN WITH THE SEED: the statements are not yours to turn. If you find one false, say at which input.
  Laid BY PROGRAM, IN A SANDBOX (cutbox-rows.mjs): the forced cells as the released guide's own fill.sh prints them over the translation 11965333c8848b00… (all of the seat's roots in one cut). By AI agents, Wed Nov 11 2026. No macro, syntax, notation, axiom, sorry.
-/
import Derived.Test.YtkajpjbjafjbkaaChecked
import GoSem.Claim
import GoSem.ClaimJoined
import GoSem.ClaimMapViews
import Derived.JoinedTies
import Derived.KernelRfl
namespace Go.Proofs.Ytkajpjbjafjbkaa
/- THE CELL 'sum', in the pinned program and in every row, IS THE sha256 OF THE DUMP (.gsa) THAT YtkajpjbjafjbkaaProg.lean LOADS. Nothing in Lean hashes anything: it is a label: what it is worth is what the hold of that sum in a sandbox is worth. -/
noncomputable def Try.pinned : Pinned := { name := "ytkajpjbjafjbkaa", sum := "11965333c8848b009f1ae23ded7b81d9809b8e94d0dc14364200f58890d006f4", checked := Try.checked }
namespace Rows
def none {H : Type} : Left H := { results := [], args := [] }

/-- 'ringkeep2.SwapApart': WHATEVER THE INPUT: true; the input reads as it did. -/
def swapApartSpec : ChangeSpec := { name := "swapApart", fn := fun _ => fun
  | [d1, d2, d3, d4, d5, d6] => { results := [.lit (.bool true)], args := [d1, d2, d3, d4, d5, d6] }
  | _ => none }
def swapApartRow : OpenClaim := { program := "ytkajpjbjafjbkaa", sum := "11965333c8848b009f1ae23ded7b81d9809b8e94d0dc14364200f58890d006f4", func := "ringhall/ringkeep2.SwapApart", spec := "swapApart", unfollowed := true, recurses := true, apart := false }
def SwapApartSaid : Prop := swapApartRow.holds Try.pinned (OpenSpec.ofChange swapApartSpec)

/-- ITS FALSE NEIGHBOUR: 'it returns false'. Refute it at one input. -/
def swapApartWrong : ChangeSpec := { name := "swapApart", fn := fun _ => fun
  | [d1, d2, d3, d4, d5, d6] => { results := [.lit (.bool false)], args := [d1, d2, d3, d4, d5, d6] }
  | _ => none }
def SwapApartWrongFalsely : Prop := swapApartRow.holds Try.pinned (OpenSpec.ofChange swapApartWrong)

/-- 'ringkeep2.SwapCounts': WHATEVER THE INPUT: true; the input reads as it did. -/
def swapCountsSpec : ChangeSpec := { name := "swapCounts", fn := fun _ => fun
  | [d1, d2, d3, d4, d5] => { results := [.lit (.bool true)], args := [d1, d2, d3, d4, d5] }
  | _ => none }
def swapCountsRow : OpenClaim := { program := "ytkajpjbjafjbkaa", sum := "11965333c8848b009f1ae23ded7b81d9809b8e94d0dc14364200f58890d006f4", func := "ringhall/ringkeep2.SwapCounts", spec := "swapCounts", unfollowed := true, recurses := true, apart := false }
def SwapCountsSaid : Prop := swapCountsRow.holds Try.pinned (OpenSpec.ofChange swapCountsSpec)

/-- ITS FALSE NEIGHBOUR: 'it returns false'. Refute it at one input. -/
def swapCountsWrong : ChangeSpec := { name := "swapCounts", fn := fun _ => fun
  | [d1, d2, d3, d4, d5] => { results := [.lit (.bool false)], args := [d1, d2, d3, d4, d5] }
  | _ => none }
def SwapCountsWrongFalsely : Prop := swapCountsRow.holds Try.pinned (OpenSpec.ofChange swapCountsWrong)

/-- 'ringkeep2.SwapBack': WHATEVER THE INPUT: true; the input reads as it did. -/
def swapBackSpec : ChangeSpec := { name := "swapBack", fn := fun _ => fun
  | [d1, d2, d3] => { results := [.lit (.bool true)], args := [d1, d2, d3] }
  | _ => none }
def swapBackRow : OpenClaim := { program := "ytkajpjbjafjbkaa", sum := "11965333c8848b009f1ae23ded7b81d9809b8e94d0dc14364200f58890d006f4", func := "ringhall/ringkeep2.SwapBack", spec := "swapBack", unfollowed := true, recurses := true, apart := false }
def SwapBackSaid : Prop := swapBackRow.holds Try.pinned (OpenSpec.ofChange swapBackSpec)

/-- ITS FALSE NEIGHBOUR: 'it returns false'. Refute it at one input. -/
def swapBackWrong : ChangeSpec := { name := "swapBack", fn := fun _ => fun
  | [d1, d2, d3] => { results := [.lit (.bool false)], args := [d1, d2, d3] }
  | _ => none }
def SwapBackWrongFalsely : Prop := swapBackRow.holds Try.pinned (OpenSpec.ofChange swapBackWrong)

/-- 'ringkeep2.FaultRights': WHATEVER THE INPUT: true; the input reads as it did. -/
def faultRightsSpec : ChangeSpec := { name := "faultRights", fn := fun _ => fun
  | [d1, d2] => { results := [.lit (.bool true)], args := [d1, d2] }
  | _ => none }
def faultRightsRow : OpenClaim := { program := "ytkajpjbjafjbkaa", sum := "11965333c8848b009f1ae23ded7b81d9809b8e94d0dc14364200f58890d006f4", func := "ringhall/ringkeep2.FaultRights", spec := "faultRights", apart := false }
def FaultRightsSaid : Prop := faultRightsRow.holds Try.pinned (OpenSpec.ofChange faultRightsSpec)

/-- ITS FALSE NEIGHBOUR: 'it returns false'. Refute it at one input. -/
def faultRightsWrong : ChangeSpec := { name := "faultRights", fn := fun _ => fun
  | [d1, d2] => { results := [.lit (.bool false)], args := [d1, d2] }
  | _ => none }
def FaultRightsWrongFalsely : Prop := faultRightsRow.holds Try.pinned (OpenSpec.ofChange faultRightsWrong)

/-- 'ringkeep2.FaultEnds': WHATEVER THE INPUT: true; the input reads as it did. -/
def faultEndsSpec : ChangeSpec := { name := "faultEnds", fn := fun _ => fun
  | [d1, d2] => { results := [.lit (.bool true)], args := [d1, d2] }
  | _ => none }
def faultEndsRow : OpenClaim := { program := "ytkajpjbjafjbkaa", sum := "11965333c8848b009f1ae23ded7b81d9809b8e94d0dc14364200f58890d006f4", func := "ringhall/ringkeep2.FaultEnds", spec := "faultEnds", apart := false }
def FaultEndsSaid : Prop := faultEndsRow.holds Try.pinned (OpenSpec.ofChange faultEndsSpec)

/-- ITS FALSE NEIGHBOUR: 'it returns false'. Refute it at one input. -/
def faultEndsWrong : ChangeSpec := { name := "faultEnds", fn := fun _ => fun
  | [d1, d2] => { results := [.lit (.bool false)], args := [d1, d2] }
  | _ => none }
def FaultEndsWrongFalsely : Prop := faultEndsRow.holds Try.pinned (OpenSpec.ofChange faultEndsWrong)

/-- 'ringkeep2.FaultAlone': WHATEVER THE INPUT: true; the input reads as it did. -/
def faultAloneSpec : ChangeSpec := { name := "faultAlone", fn := fun _ => fun
  | [d1, d2] => { results := [.lit (.bool true)], args := [d1, d2] }
  | _ => none }
def faultAloneRow : OpenClaim := { program := "ytkajpjbjafjbkaa", sum := "11965333c8848b009f1ae23ded7b81d9809b8e94d0dc14364200f58890d006f4", func := "ringhall/ringkeep2.FaultAlone", spec := "faultAlone", apart := false }
def FaultAloneSaid : Prop := faultAloneRow.holds Try.pinned (OpenSpec.ofChange faultAloneSpec)

/-- ITS FALSE NEIGHBOUR: 'it returns false'. Refute it at one input. -/
def faultAloneWrong : ChangeSpec := { name := "faultAlone", fn := fun _ => fun
  | [d1, d2] => { results := [.lit (.bool false)], args := [d1, d2] }
  | _ => none }
def FaultAloneWrongFalsely : Prop := faultAloneRow.holds Try.pinned (OpenSpec.ofChange faultAloneWrong)

/-- 'ringkeep2.FaultOnce': WHATEVER THE INPUT: true; the input reads as it did. -/
def faultOnceSpec : ChangeSpec := { name := "faultOnce", fn := fun _ => fun
  | [d1, d2] => { results := [.lit (.bool true)], args := [d1, d2] }
  | _ => none }
def faultOnceRow : OpenClaim := { program := "ytkajpjbjafjbkaa", sum := "11965333c8848b009f1ae23ded7b81d9809b8e94d0dc14364200f58890d006f4", func := "ringhall/ringkeep2.FaultOnce", spec := "faultOnce", apart := false }
def FaultOnceSaid : Prop := faultOnceRow.holds Try.pinned (OpenSpec.ofChange faultOnceSpec)

/-- ITS FALSE NEIGHBOUR: 'it returns false'. Refute it at one input. -/
def faultOnceWrong : ChangeSpec := { name := "faultOnce", fn := fun _ => fun
  | [d1, d2] => { results := [.lit (.bool false)], args := [d1, d2] }
  | _ => none }
def FaultOnceWrongFalsely : Prop := faultOnceRow.holds Try.pinned (OpenSpec.ofChange faultOnceWrong)

/- THE SECOND FORM. 'bulk': how many values and letters a reading holds, each counted each time it is reached (what is shared counts as often as it is met; a slice's spare places count too). A statement '..UptoSaid' is the law's where the arguments, and the package variables that the reading takes, are together of bulk at most 1048576: NARROWER than '..Said'. Prove '..Said' where nothing that the law and all that it calls make is longer than what came in: it says more and counts as full. Else prove '..UptoSaid'. A law counts once. -/
mutual
def uptoBulk {H : Type} : DataW H → Nat
  | .lit (.string bytes) => bytes.length + 1
  | .lit _ => 1
  | .nil => 1
  | .ptr d => uptoBulk d + 1
  | .slice elems spare => uptoBulkAll elems + uptoBulkAll spare + 1
  | .agg parts => uptoBulkAll parts + 1
  | .iface _ d => uptoBulk d + 1
  | .map entries => uptoBulkEntries entries + 1
  | .held _ => 1
def uptoBulkAll {H : Type} : List (DataW H) → Nat
  | [] => 0
  | d :: r => uptoBulk d + uptoBulkAll r
def uptoBulkEntries {H : Type} : List (Lit × DataW H) → Nat
  | [] => 0
  | x :: r => uptoBulkEntry x + uptoBulkEntries r
def uptoBulkEntry {H : Type} : Lit × DataW H → Nat
  | (.string bytes, d) => bytes.length + uptoBulk d + 1
  | (_, d) => uptoBulk d + 1
 end
def uptoSmall : (H : Type) → List (DataW H) → Bool := fun _ ds => decide (uptoBulkAll ds ≤ 1048576)
def OpenSpec.upto (s : _root_.Go.ChangeSpec) : _root_.Go.OpenSpec := { _root_.Go.OpenSpec.ofChange s with cond := some uptoSmall }

/-- 'ringkeep2.SwapApart', WHERE WHAT IT READS IS OF BULK AT MOST 1048576: true; the input reads as it did. -/
def swapApartUptoRow : OpenClaim := { program := "ytkajpjbjafjbkaa", sum := "11965333c8848b009f1ae23ded7b81d9809b8e94d0dc14364200f58890d006f4", func := "ringhall/ringkeep2.SwapApart", spec := "swapApart", unfollowed := true, recurses := true, apart := false, narrowed := true }
def SwapApartUptoSaid : Prop := swapApartUptoRow.holds Try.pinned (OpenSpec.upto swapApartSpec)

/-- 'ringkeep2.SwapCounts', WHERE WHAT IT READS IS OF BULK AT MOST 1048576: true; the input reads as it did. -/
def swapCountsUptoRow : OpenClaim := { program := "ytkajpjbjafjbkaa", sum := "11965333c8848b009f1ae23ded7b81d9809b8e94d0dc14364200f58890d006f4", func := "ringhall/ringkeep2.SwapCounts", spec := "swapCounts", unfollowed := true, recurses := true, apart := false, narrowed := true }
def SwapCountsUptoSaid : Prop := swapCountsUptoRow.holds Try.pinned (OpenSpec.upto swapCountsSpec)

/-- 'ringkeep2.SwapBack', WHERE WHAT IT READS IS OF BULK AT MOST 1048576: true; the input reads as it did. -/
def swapBackUptoRow : OpenClaim := { program := "ytkajpjbjafjbkaa", sum := "11965333c8848b009f1ae23ded7b81d9809b8e94d0dc14364200f58890d006f4", func := "ringhall/ringkeep2.SwapBack", spec := "swapBack", unfollowed := true, recurses := true, apart := false, narrowed := true }
def SwapBackUptoSaid : Prop := swapBackUptoRow.holds Try.pinned (OpenSpec.upto swapBackSpec)

/-- 'ringkeep2.FaultRights', WHERE WHAT IT READS IS OF BULK AT MOST 1048576: true; the input reads as it did. -/
def faultRightsUptoRow : OpenClaim := { program := "ytkajpjbjafjbkaa", sum := "11965333c8848b009f1ae23ded7b81d9809b8e94d0dc14364200f58890d006f4", func := "ringhall/ringkeep2.FaultRights", spec := "faultRights", apart := false, narrowed := true }
def FaultRightsUptoSaid : Prop := faultRightsUptoRow.holds Try.pinned (OpenSpec.upto faultRightsSpec)

/-- 'ringkeep2.FaultEnds', WHERE WHAT IT READS IS OF BULK AT MOST 1048576: true; the input reads as it did. -/
def faultEndsUptoRow : OpenClaim := { program := "ytkajpjbjafjbkaa", sum := "11965333c8848b009f1ae23ded7b81d9809b8e94d0dc14364200f58890d006f4", func := "ringhall/ringkeep2.FaultEnds", spec := "faultEnds", apart := false, narrowed := true }
def FaultEndsUptoSaid : Prop := faultEndsUptoRow.holds Try.pinned (OpenSpec.upto faultEndsSpec)

/-- 'ringkeep2.FaultAlone', WHERE WHAT IT READS IS OF BULK AT MOST 1048576: true; the input reads as it did. -/
def faultAloneUptoRow : OpenClaim := { program := "ytkajpjbjafjbkaa", sum := "11965333c8848b009f1ae23ded7b81d9809b8e94d0dc14364200f58890d006f4", func := "ringhall/ringkeep2.FaultAlone", spec := "faultAlone", apart := false, narrowed := true }
def FaultAloneUptoSaid : Prop := faultAloneUptoRow.holds Try.pinned (OpenSpec.upto faultAloneSpec)

/-- 'ringkeep2.FaultOnce', WHERE WHAT IT READS IS OF BULK AT MOST 1048576: true; the input reads as it did. -/
def faultOnceUptoRow : OpenClaim := { program := "ytkajpjbjafjbkaa", sum := "11965333c8848b009f1ae23ded7b81d9809b8e94d0dc14364200f58890d006f4", func := "ringhall/ringkeep2.FaultOnce", spec := "faultOnce", apart := false, narrowed := true }
def FaultOnceUptoSaid : Prop := faultOnceUptoRow.holds Try.pinned (OpenSpec.upto faultOnceSpec)

end Rows
end Go.Proofs.Ytkajpjbjafjbkaa
