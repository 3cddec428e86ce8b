
import Derived.Test.YtdakclpneghkmaaGreatDoorCon
import Derived.Test.YtdakclpneghkmaaGreatDoorRun
import Derived.Test.YtdakclpneghkmaaGreatDoorTQ
import Derived.Test.YtdakclpneghkmaaGreatDoorBB

namespace Go.Proofs.GD
set_option linter.unusedSectionVars false
variable [Go.AI.Sym]
open Go Go.AI Go.RowKit
set_option maxRecDepth 100000
theorem q27 : tab.rdf 27 = false := by kernel_rfl
theorem q26 : tab.rdf 26 = false := by kernel_rfl
theorem q14 : tab.rdf 14 = false := by kernel_rfl
theorem q6 : tab.rdf 6 = false := by kernel_rfl
theorem s27 : InlOk Tryz.prog 27 (snapM [.ptr 2 4 0 0] newn newl formatr1 formatn formatl) := snap_of hT0 ok1 ok2 c27
theorem hT1 : TabV Tryz.prog tab cat1 := (hT0.add q27 s27).add q26 new_inl
theorem s14 : InlOk Tryz.prog 14 (snapM [.v (.int .i64 256), .v (.slice none 0 0)] 0 [] maker0 maken makel) := snap_of hT1 ok0 ok3 c14
theorem hT2 : TabV Tryz.prog tab cat2 := hT0.add q14 s14
theorem s6 : InlOk Tryz.prog 6 (snapM [] 0 [] startedr0 startedn startedl) := snap_of hT2 ok0 ok4 c6
end Go.Proofs.GD
/- The tables of TopShare's run. -/
namespace Go.Proofs.GD
set_option linter.unusedSectionVars false
variable [Go.AI.Sym]
open Go Go.AI Go.RowKit
set_option maxRecDepth 100000
noncomputable def cat4 (f : Nat) : Sp := cond (Nat.beq f 60) (.gen (fun _ => mBegin) (fun _ _ => mtBegin) (fun _ _ args T H _ h => begin_sim args T H h)) (cond (Nat.beq f 128) (.gen mKeep mtKeep keep_sim) (cond (Nat.beq f 318) (.ext cntG) (cond (Nat.beq f 350) (.ext idxG) (cond (Nat.beq f 6) (.snap [] 0 [] startedr0 startedn startedl) (catG f)))))
theorem q60 : tab4.rdf 60 = false := by kernel_rfl
theorem q128 : tab4.rdf 128 = false := by kernel_rfl
theorem q6' : tab4.rdf 6 = false := by kernel_rfl
theorem hT4 : TabV Tryz.prog tab4 cat4 := ((((hG.add q6' s6).addX idx_inl).addX cnt_inl).addG q128 keep_inl).addG q60 (fun _ _ => begin_inl)
end Go.Proofs.GD
