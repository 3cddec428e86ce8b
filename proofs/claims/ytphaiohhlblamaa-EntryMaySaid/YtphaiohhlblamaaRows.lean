/-
  No cell of these rows narrows 'for every input' (looked for: loops, veiled, ifaces, maps, wideKeys, modest, calm, conditions, laid).
  DERIVED. THE GIVEN ROWS OF THIS SEAT. 5 by the template 'for every input the law returns true; each argument reads behind the call as it read before'; 0 by the template 'total and deterministic' (their statements: YtphaiohhlblamaaTotals.lean).
  GIVEN WITH THE SEED: the statements are not yours to turn. If you find one false, say at which input.
  Laid BY PROGRAM, IN A SANDBOX (cutbox-rows.mjs): the forced cells as the released guide's own fill.sh prints them over the translation 38a848572c95e03e… (all of the seat's roots in one cut). By AI agents, Wed Nov 11 2026. No macro, syntax, notation, axiom, sorry.
-/
import Derived.Test.YtphaiohhlblamaaChecked
import GoSem.Claim
import GoSem.ClaimJoined
import GoSem.ClaimMapViews
import Derived.JoinedTies
import Derived.KernelRfl
namespace Go.Proofs.Ytphaiohhlblamaa
/- THE CELL 'sum', in the pinned program and in every row, IS THE sha256 OF THE DUMP (.gsa) THAT YtphaiohhlblamaaProg.lean LOADS. Nothing in Lean hashes anything: it is a label: what it is worth is what the hold of that sum in a sandbox is worth. -/
noncomputable def Try.pinned : Pinned := { name := "ytphaiohhlblamaa", sum := "38a848572c95e03eee7624451da0672ae8653375be65b64b1057afdfe0eb1565", checked := Try.checked }
namespace Rows
def none {H : Type} : Left H := { results := [], args := [] }

/-- 'ringkeep2.EntryBack': WHATEVER THE INPUT: true; the input reads as it did. -/
def entryBackSpec : ChangeSpec := { name := "entryBack", fn := fun _ => fun
  | [d1, d2] => { results := [.lit (.bool true)], args := [d1, d2] }
  | _ => none }
def entryBackRow : OpenClaim := { program := "ytphaiohhlblamaa", sum := "38a848572c95e03eee7624451da0672ae8653375be65b64b1057afdfe0eb1565", func := "ringhall/ringkeep2.EntryBack", spec := "entryBack", apart := false }
def EntryBackSaid : Prop := entryBackRow.holds Try.pinned (OpenSpec.ofChange entryBackSpec)

/-- ITS FALSE NEIGHBOUR: 'it returns false'. Refute it at one input. -/
def entryBackWrong : ChangeSpec := { name := "entryBack", fn := fun _ => fun
  | [d1, d2] => { results := [.lit (.bool false)], args := [d1, d2] }
  | _ => none }
def EntryBackWrongFalsely : Prop := entryBackRow.holds Try.pinned (OpenSpec.ofChange entryBackWrong)

/-- 'ringkeep2.EntryMay': WHATEVER THE INPUT: true; the input reads as it did. -/
def entryMaySpec : ChangeSpec := { name := "entryMay", fn := fun _ => fun
  | [d1, d2, d3] => { results := [.lit (.bool true)], args := [d1, d2, d3] }
  | _ => none }
def entryMayRow : OpenClaim := { program := "ytphaiohhlblamaa", sum := "38a848572c95e03eee7624451da0672ae8653375be65b64b1057afdfe0eb1565", func := "ringhall/ringkeep2.EntryMay", spec := "entryMay", apart := false }
def EntryMaySaid : Prop := entryMayRow.holds Try.pinned (OpenSpec.ofChange entryMaySpec)

/-- ITS FALSE NEIGHBOUR: 'it returns false'. Refute it at one input. -/
def entryMayWrong : ChangeSpec := { name := "entryMay", fn := fun _ => fun
  | [d1, d2, d3] => { results := [.lit (.bool false)], args := [d1, d2, d3] }
  | _ => none }
def EntryMayWrongFalsely : Prop := entryMayRow.holds Try.pinned (OpenSpec.ofChange entryMayWrong)

/-- 'ringkeep2.FrameOnce': WHATEVER THE INPUT: true; the input reads as it did. -/
def frameOnceSpec : ChangeSpec := { name := "frameOnce", fn := fun _ => fun
  | [d1, d2, d3, d4, d5, d6] => { results := [.lit (.bool true)], args := [d1, d2, d3, d4, d5, d6] }
  | _ => none }
def frameOnceRow : OpenClaim := { program := "ytphaiohhlblamaa", sum := "38a848572c95e03eee7624451da0672ae8653375be65b64b1057afdfe0eb1565", func := "ringhall/ringkeep2.FrameOnce", spec := "frameOnce", apart := false }
def FrameOnceSaid : Prop := frameOnceRow.holds Try.pinned (OpenSpec.ofChange frameOnceSpec)

/-- ITS FALSE NEIGHBOUR: 'it returns false'. Refute it at one input. -/
def frameOnceWrong : ChangeSpec := { name := "frameOnce", fn := fun _ => fun
  | [d1, d2, d3, d4, d5, d6] => { results := [.lit (.bool false)], args := [d1, d2, d3, d4, d5, d6] }
  | _ => none }
def FrameOnceWrongFalsely : Prop := frameOnceRow.holds Try.pinned (OpenSpec.ofChange frameOnceWrong)

/-- 'ringkeep2.FrameLast': WHATEVER THE INPUT: true; the input reads as it did. -/
def frameLastSpec : ChangeSpec := { name := "frameLast", fn := fun _ => fun
  | [d1, d2] => { results := [.lit (.bool true)], args := [d1, d2] }
  | _ => none }
def frameLastRow : OpenClaim := { program := "ytphaiohhlblamaa", sum := "38a848572c95e03eee7624451da0672ae8653375be65b64b1057afdfe0eb1565", func := "ringhall/ringkeep2.FrameLast", spec := "frameLast", apart := false }
def FrameLastSaid : Prop := frameLastRow.holds Try.pinned (OpenSpec.ofChange frameLastSpec)

/-- ITS FALSE NEIGHBOUR: 'it returns false'. Refute it at one input. -/
def frameLastWrong : ChangeSpec := { name := "frameLast", fn := fun _ => fun
  | [d1, d2] => { results := [.lit (.bool false)], args := [d1, d2] }
  | _ => none }
def FrameLastWrongFalsely : Prop := frameLastRow.holds Try.pinned (OpenSpec.ofChange frameLastWrong)

/-- 'ringkeep2.FrameTurns': WHATEVER THE INPUT: true; the input reads as it did. -/
def frameTurnsSpec : ChangeSpec := { name := "frameTurns", fn := fun _ => fun
  | [d1, d2, d3, d4] => { results := [.lit (.bool true)], args := [d1, d2, d3, d4] }
  | _ => none }
def frameTurnsRow : OpenClaim := { program := "ytphaiohhlblamaa", sum := "38a848572c95e03eee7624451da0672ae8653375be65b64b1057afdfe0eb1565", func := "ringhall/ringkeep2.FrameTurns", spec := "frameTurns", apart := false }
def FrameTurnsSaid : Prop := frameTurnsRow.holds Try.pinned (OpenSpec.ofChange frameTurnsSpec)

/-- ITS FALSE NEIGHBOUR: 'it returns false'. Refute it at one input. -/
def frameTurnsWrong : ChangeSpec := { name := "frameTurns", fn := fun _ => fun
  | [d1, d2, d3, d4] => { results := [.lit (.bool false)], args := [d1, d2, d3, d4] }
  | _ => none }
def FrameTurnsWrongFalsely : Prop := frameTurnsRow.holds Try.pinned (OpenSpec.ofChange frameTurnsWrong)

/- THE SECOND FORM. 'bulk': how many values and letters a reading holds, each counted each time it is reached (what is shared counts as often as it is met; a slice's spare places count too). A statement '..UptoSaid' is the law's where the arguments, and the package variables that the reading takes, are together of bulk at most 1048576: NARROWER than '..Said'. Prove '..Said' where nothing that the law and all that it calls make is longer than what came in: it says more and counts as full. Else prove '..UptoSaid'. A law counts once. -/
mutual
def uptoBulk {H : Type} : DataW H → Nat
  | .lit (.string bytes) => bytes.length + 1
  | .lit _ => 1
  | .nil => 1
  | .ptr d => uptoBulk d + 1
  | .slice elems spare => uptoBulkAll elems + uptoBulkAll spare + 1
  | .agg parts => uptoBulkAll parts + 1
  | .iface _ d => uptoBulk d + 1
  | .map entries => uptoBulkEntries entries + 1
  | .held _ => 1
def uptoBulkAll {H : Type} : List (DataW H) → Nat
  | [] => 0
  | d :: r => uptoBulk d + uptoBulkAll r
def uptoBulkEntries {H : Type} : List (Lit × DataW H) → Nat
  | [] => 0
  | x :: r => uptoBulkEntry x + uptoBulkEntries r
def uptoBulkEntry {H : Type} : Lit × DataW H → Nat
  | (.string bytes, d) => bytes.length + uptoBulk d + 1
  | (_, d) => uptoBulk d + 1
 end
def uptoSmall : (H : Type) → List (DataW H) → Bool := fun _ ds => decide (uptoBulkAll ds ≤ 1048576)
def OpenSpec.upto (s : _root_.Go.ChangeSpec) : _root_.Go.OpenSpec := { _root_.Go.OpenSpec.ofChange s with cond := some uptoSmall }

/-- 'ringkeep2.EntryBack', WHERE WHAT IT READS IS OF BULK AT MOST 1048576: true; the input reads as it did. -/
def entryBackUptoRow : OpenClaim := { program := "ytphaiohhlblamaa", sum := "38a848572c95e03eee7624451da0672ae8653375be65b64b1057afdfe0eb1565", func := "ringhall/ringkeep2.EntryBack", spec := "entryBack", apart := false, narrowed := true }
def EntryBackUptoSaid : Prop := entryBackUptoRow.holds Try.pinned (OpenSpec.upto entryBackSpec)

/-- 'ringkeep2.EntryMay', WHERE WHAT IT READS IS OF BULK AT MOST 1048576: true; the input reads as it did. -/
def entryMayUptoRow : OpenClaim := { program := "ytphaiohhlblamaa", sum := "38a848572c95e03eee7624451da0672ae8653375be65b64b1057afdfe0eb1565", func := "ringhall/ringkeep2.EntryMay", spec := "entryMay", apart := false, narrowed := true }
def EntryMayUptoSaid : Prop := entryMayUptoRow.holds Try.pinned (OpenSpec.upto entryMaySpec)

/-- 'ringkeep2.FrameOnce', WHERE WHAT IT READS IS OF BULK AT MOST 1048576: true; the input reads as it did. -/
def frameOnceUptoRow : OpenClaim := { program := "ytphaiohhlblamaa", sum := "38a848572c95e03eee7624451da0672ae8653375be65b64b1057afdfe0eb1565", func := "ringhall/ringkeep2.FrameOnce", spec := "frameOnce", apart := false, narrowed := true }
def FrameOnceUptoSaid : Prop := frameOnceUptoRow.holds Try.pinned (OpenSpec.upto frameOnceSpec)

/-- 'ringkeep2.FrameLast', WHERE WHAT IT READS IS OF BULK AT MOST 1048576: true; the input reads as it did. -/
def frameLastUptoRow : OpenClaim := { program := "ytphaiohhlblamaa", sum := "38a848572c95e03eee7624451da0672ae8653375be65b64b1057afdfe0eb1565", func := "ringhall/ringkeep2.FrameLast", spec := "frameLast", apart := false, narrowed := true }
def FrameLastUptoSaid : Prop := frameLastUptoRow.holds Try.pinned (OpenSpec.upto frameLastSpec)

/-- 'ringkeep2.FrameTurns', WHERE WHAT IT READS IS OF BULK AT MOST 1048576: true; the input reads as it did. -/
def frameTurnsUptoRow : OpenClaim := { program := "ytphaiohhlblamaa", sum := "38a848572c95e03eee7624451da0672ae8653375be65b64b1057afdfe0eb1565", func := "ringhall/ringkeep2.FrameTurns", spec := "frameTurns", apart := false, narrowed := true }
def FrameTurnsUptoSaid : Prop := frameTurnsUptoRow.holds Try.pinned (OpenSpec.upto frameTurnsSpec)

end Rows
end Go.Proofs.Ytphaiohhlblamaa
